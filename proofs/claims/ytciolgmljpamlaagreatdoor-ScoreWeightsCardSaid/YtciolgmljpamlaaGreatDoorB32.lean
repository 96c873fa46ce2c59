/- A bundle of texts: ScWt, LawWe. -/
import Derived.Test.YtciolgmljpamlaaGreatDoorB08
import Derived.Test.YtciolgmljpamlaaGreatDoorB24
import Derived.Test.YtciolgmljpamlaaGreatDoorB31
import Derived.Deep.RegionHeld3
/- Layer 28: Weights. -/
section
namespace Go.Proofs.YtciolgmljpamlaaGreatDoor
open Go Go.RowKit
set_option maxRecDepth 100000

/-- The numbers of stations are valid and rise. -/
def M.idV (s : St) : Bool := M.stB s.id
def M.idC (a b : St) : Int := a.id - b.id
def M.idsOk (l : List St) : Bool := M.vscan M.idV M.idC l l.length
/-- The weight of a station. -/
def M.wt1 (W H : Int) (G P : List Int) (ps ls : List P5) (s : St) : Wt := (s.id, ((M.nbs s.id ps ls).length : Int), M.total P (M.area W H G s))
def M.wtOk (W H : Int) (G P : List Int) (ps ls : List P5) (cs : List P4) (l : List St) : Bool := M.rvalid ps ls cs && M.idsOk l && l.all (M.okS W H G P)
def M.wtR (W H : Int) (G P : List Int) (ps ls : List P5) (cs : List P4) (l : List St) : List Wt × Int := if M.wtOk W H G P ps ls cs l then (l.map (M.wt1 W H G P ps ls), 0) else ([], 2)
theorem M.wtR_no {W H : Int} {G P : List Int} {ps ls : List P5} {cs : List P4} {l : List St} (h : M.wtOk W H G P ps ls cs l = false) : M.wtR W H G P ps ls cs l = ([], 2) := by unfold M.wtR; rw [h]; rfl
theorem M.idsOk_no {l : List St} {k : Nat} (hk : k < l.length) (h : M.vstep M.idV M.idC l k = false) : M.idsOk l = false := M.vscan_no h hk
theorem M.nbs_len (n : Int) (ps ls : List P5) : (M.nbs n ps ls).length ≤ 512 := by
  unfold M.nbs
  rw [List.length_map]
  exact Nat.le_trans (List.length_filter_le _ _) (by simp)
theorem M.map_at {l : List SE} {k : Nat} (hk : k < l.length) (hk2 : k < (l.map (·.s)).length) : (l.map (·.s))[k] = l[k].s := by simp

/-- What Weights holds: the boxes of its terrain and constraints, the lists. -/
structure WW (w0 w : World) (bt br : Nat) (W H : Int) (GA PA : Option Addr) (gc pc : Nat) (G P : List Int) (XA YA ZA : Option Addr) (xc yc zc : Nat) (ps ls : List P5) (cs : List P4) (LA : Option Addr) (es : List SE) : Prop where
  t : Box w bt #[.int .i64 W, .int .i64 H, .slice GA G.length gc, .slice PA P.length pc] 24
  r : Box w br #[.slice XA ps.length xc, .slice YA ls.length yc, .slice ZA cs.length zc] 30
  g : Sl 1 icell w w.heap.size GA G
  p : Sl 1 icell w w.heap.size PA P
  rw : RW w XA YA ZA ps ls cs
  tab : Tab w
  s : Sl 8 secell w w.heap.size LA es
  pt : Pats w es
  below : Below w0.heap.size w0 w
theorem WW.next {w0 w w' : World} {bt br : Nat} {W H : Int} {GA PA : Option Addr} {gc pc : Nat} {G P : List Int} {XA YA ZA : Option Addr} {xc yc zc : Nat} {ps ls : List P5} {cs : List P4} {LA : Option Addr} {es : List SE} (h : WW w0 w bt br W H GA PA gc pc G P XA YA ZA xc yc zc ps ls cs LA es) (hb : Below w.heap.size w w') : WW w0 w' bt br W H GA PA gc pc G P XA YA ZA xc yc zc ps ls cs LA es :=
  ⟨h.t.below hb, h.r.below hb, (h.g.below hb).more hb.size, (h.p.below hb).more hb.size, h.rw.next hb, h.tab.kept hb, (h.s.below hb).more hb.size, h.pt.below hb, after_ h.below hb⟩

theorem wtInfo3 : (Tryz.prog.info? 46).map (fun i => (i.zero, i.size, i.bytes)) = some (some (.agg #[.int .i64 0, .int .i64 0, .int .i64 0]), 3, 24) := by kernel_rfl

set_option maxHeartbeats 16000000 in
theorem weights_any (W H : Int) (GA PA : Option Addr) (gc pc : Nat) (G P : List Int) (LA : Option Addr) (lc : Nat) (es : List SE) (XA YA ZA : Option Addr) (xc yc zc : Nat) (ps ls : List P5) (cs : List P4) (w : World) (ht : Tab w) (hg : Sl 1 icell w w.heap.size GA G) (hp : Sl 1 icell w w.heap.size PA P) (hL : Sl 8 secell w w.heap.size LA es) (hP : Pats w es) (hr : RW w XA YA ZA ps ls cs)
    (hl : es.length ≤ 6) (h1 : ps.length ≤ 20) (h2 : ls.length ≤ 20) (h3 : cs.length ≤ 20) (hgl : G.length ≤ 9223372036854775807) (hpl : P.length ≤ 9223372036854775807) (hpe : ∀ e ∈ es, e.s.pat.length ≤ 9223372036854775807) :
    Calls Tryz.prog 11 #[tv W H GA PA G.length gc P.length pc, .slice LA es.length lc, ruv XA ps.length xc YA ls.length yc ZA cs.length zc] w (RetL 3 wcell w (M.wtR W H G P ps ls cs (es.map (·.s))).1 (M.wtR W H G P ps ls cs (es.map (·.s))).2) := by
  obtain ⟨i0, hi, hz0, hz1, hz2⟩ := info_parts wtInfo3
  have Hi := Lib.hid hi; have Hz0 := Lib.hid hz0; have Hz1 := Lib.hid hz1; have Hz2 := Lib.hid hz2
  clear hi hz0 hz1 hz2
  obtain ⟨V, HW, x0, x1, hB, -⟩ := boxes2 w #[.int .i64 W, .int .i64 H, .slice GA G.length gc, .slice PA P.length pc] 24 #[.slice XA ps.length xc, .slice YA ls.length yc, .slice ZA cs.length zc] 30
  have ww : WW w V w.heap.size (w.heap.size + 1) W H GA PA gc pc G P XA YA ZA xc yc zc ps ls cs LA es := ⟨x0, x1, (hg.below hB).more hB.size, (hp.below hB).more hB.size, hr.next hB, ht.kept hB, (hL.below hB).more hB.size, hP.below hB, hB⟩
  clear x0 x1 hB
  obtain ⟨⟨rl, re⟩, hre⟩ : ∃ q, M.wtR W H G P ps ls cs (es.map (·.s)) = q := ⟨_, rfl⟩
  rw [hre]
  have HNO : Hid (M.wtOk W H G P ps ls cs (es.map (·.s)) = false → rl = [] ∧ re = 2) := Lib.hid (fun h => by rw [M.wtR_no h] at hre; obtain ⟨e1, e2⟩ := Prod.mk.inj hre; exact ⟨e1.symm, e2.symm⟩)
  have HYES : Hid (M.wtOk W H G P ps ls cs (es.map (·.s)) = true → rl = (es.map (·.s)).map (M.wt1 W H G P ps ls) ∧ re = 0) := Lib.hid (fun h => by unfold M.wtR at hre; rw [if_pos h] at hre; obtain ⟨e1, e2⟩ := Prod.mk.inj hre; exact ⟨e1.symm, e2.symm⟩)
  clear hre
  have HPE := Lib.hid hpe
  clear hpe
  have kV := rvalid_any XA YA ZA xc yc zc ps ls cs V ww.rw (by omega) (by omega) (by omega)
  obtain ⟨c0, c1, c2⟩ := ww.r.c3
  have hV := HW.out
  go_enter Tryz.func11, Tryz.ntmps11
  go_wp2_with fail
  clear hV c0 c1 c2
  refine kV.mono ?_
  rintro e w1 ⟨rfl, hb1⟩
  replace ww := ww.next hb1
  clear kV hb1
  cases hv : M.rvalid ps ls cs with
  | false =>
    obtain ⟨rfl, rfl⟩ := HNO.out (by unfold M.wtOk; rw [hv]; rfl)
    go_wp2_with fail
    go_ret2
    exact RetL.none ww.below
  | true =>
    go_wp2_with fail
    go_loopw [8, 9, 21] (fun _ _ i wr => ∃ k : Nat, k ≤ es.length ∧ i = .int .i64 k ∧ Below w1.heap.size w1 wr ∧ Hid (M.vscan M.idV M.idC (es.map (·.s)) k = true)) (fun _ _ i _ => es.length - (intOf i).toNat)
    case atStart => exact ⟨0, Nat.zero_le _, rfl, Below.refl _ _, Lib.hid rfl⟩
    case round =>
      obtain ⟨k, hk, rfl, hBr, HS⟩ := hrel
      replace ww := ww.next hBr
      by_cases hlt : k < es.length
      · obtain ⟨la, hla, hlb, a0, a1, a2, a3, a4, a5, a6, a7⟩ := ww.s.st8 hlt
        have hlt2 : k < (es.map (·.s)).length := by simpa using hlt
        have HSS := Lib.hid (M.vscan_succ M.idV M.idC (es.map (·.s)) k)
        have HNk : Hid (M.vstep M.idV M.idC (es.map (·.s)) k = false → rl = [] ∧ re = 2) := Lib.hid (fun h => HNO.out (by unfold M.wtOk; rw [M.idsOk_no hlt2 h, Bool.and_false, Bool.false_and]))
        have HV0 := Lib.hid (M.vstep0 (v := M.idV) (cf := M.idC) hlt2)
        have HVF := Lib.hid (M.vstepF (v := M.idV) (cf := M.idC) hlt2)
        have HVN := Lib.hid (M.vstepN (v := M.idV) (cf := M.idC) hlt2)
        rw [M.map_at hlt hlt2] at HV0 HVF HVN
        obtain ⟨⟨s, A', c'⟩, hx⟩ : ∃ x, es[k] = x := ⟨_, rfl⟩
        rw [hx] at a0 a1 a2 a3 a4 a5 a6 a7 HV0 HVF HVN
        simp only at a0 a1 a2 a3 a4 a5 a6 a7 HV0 HVF HVN
        clear hx
        obtain ⟨X, HX, u0, hbX, -⟩ := boxes1 wr (stc s A' c') 40
        have l0 := u0.lt
        have m0 := u0.c8.1
        have hX := HX.out
        have kS0 := fun w1 => isStation_any s.id w1
        cases hst : M.stB s.id with
        | false =>
          rw [hst] at kS0
          have kS := Lib.hid kS0
          clear kS0
          obtain ⟨rfl, rfl⟩ := HNk.out (HV0.out hst)
          subst hla
          go_wp2_with fail
          clear hX
          refine wp_region_kept X.heap.size X (by kernel_rfl) (by kernel_rfl) (Below.refl _ _) ?_
          repeat (go_big_quiet_step ((go_at_call 38; exact Kept.same (kS.out _))))
          refine wpQuiet_nil ?_
          rintro w5 ⟨⟨_, hb5⟩, rfl⟩
          go_wp2_with fail
          go_ret2
          exact RetL.none (after_ (after_ ww.below hbX) hb5)
        | true =>
          rw [hst] at kS0
          have kS := Lib.hid kS0
          clear kS0
          by_cases h0 : 0 < k
          · obtain ⟨la2, hla2, hlb2, p0, -⟩ := ww.s.sp (k := k - 1) (by decide) (by omega)
            obtain rfl : la = la2 := Option.some.inj (hla.symm.trans hla2)
            have hvn := HVN.out hst h0
            rw [M.map_at (show k - 1 < es.length by omega)] at hvn
            obtain ⟨⟨s2, A2, c2⟩, hy⟩ : ∃ y, es[k - 1] = y := ⟨_, rfl⟩
            rw [hy] at p0 hvn
            clear hy hla2
            have p0 : wr.cell? (la.add ((k - 1) * 8)) = some (.int .i64 s2.id) := p0
            have hvn : M.vstep M.idV M.idC (es.map (·.s)) k = decide (s2.id - s.id < 0) := hvn
            have l2 : (la.add ((k - 1) * 8)).block < X.heap.size := Nat.lt_of_lt_of_le hlb2 hbX.size
            have s0 := (hbX.cell (p := la.add ((k - 1) * 8)) hlb2).trans p0
            have HVN2 := Lib.hid hvn
            clear hvn p0
            by_cases hc : s.id ≤ s2.id
            · have q2 : decide (s.id ≤ s2.id) = true := decide_eq_true hc
              obtain ⟨rfl, rfl⟩ := HNk.out (by rw [HVN2.out]; exact decide_eq_false (by omega))
              subst hla
              go_wp2_with fail
              clear hX
              refine wp_region_kept X.heap.size X (by kernel_rfl) (by kernel_rfl) (Below.refl _ _) ?_
              repeat (go_big_quiet_step ((go_at_call 38; exact Kept.same (kS.out _))))
              refine wpQuiet_nil ?_
              rintro w5 ⟨⟨_, hb5⟩, rfl⟩
              go_wp2_with fail
              go_ret2
              exact RetL.none (after_ (after_ ww.below hbX) hb5)
            · have q2 : decide (s.id ≤ s2.id) = false := decide_eq_false hc
              have HS2 : Hid (M.vscan M.idV M.idC (es.map (·.s)) (k + 1) = true) := Lib.hid (by rw [HSS.out, HS.out, HVN2.out]; exact decide_eq_true (by omega))
              subst hla
              go_wp2_with fail
              clear hX
              refine wp_region_kept X.heap.size X (by kernel_rfl) (by kernel_rfl) (Below.refl _ _) ?_
              repeat (go_big_quiet_step ((go_at_call 38; exact Kept.same (kS.out _))))
              refine wpQuiet_nil ?_
              rintro w5 ⟨⟨_, hb5⟩, rfl⟩
              go_wp2_with fail
              go_roundw
              case rel => exact ⟨k + 1, hlt, by go_num, after_ (after_ hBr hbX) hb5, HS2⟩
              case measure => simp [intOf]; omega
          · have HS2 : Hid (M.vscan M.idV M.idC (es.map (·.s)) (k + 1) = true) := Lib.hid (by rw [HSS.out, HS.out, HVF.out hst h0]; rfl)
            have hk0 : decide (0 < k) = false := decide_eq_false h0
            clear h0
            subst hla
            go_wp2_with fail
            clear hX
            refine wp_region_kept X.heap.size X (by kernel_rfl) (by kernel_rfl) (Below.refl _ _) ?_
            repeat (go_big_quiet_step ((go_at_call 38; exact Kept.same (kS.out _))))
            refine wpQuiet_nil ?_
            rintro w5 ⟨⟨_, hb5⟩, rfl⟩
            go_wp2_with fail
            go_roundw
            case rel => exact ⟨k + 1, hlt, by go_num, after_ (after_ hBr hbX) hb5, HS2⟩
            case measure => simp [intOf]; omega
      · obtain rfl : k = es.length := by omega
        have hids : M.idsOk (es.map (·.s)) = true := by
          unfold M.idsOk
          rw [List.length_map]
          exact HS.out
        have HID := Lib.hid hids
        clear hids
        obtain ⟨Z, HZ⟩ : ∃ Z, Hid (wr = Z) := ⟨_, Lib.hid rfl⟩
        have wz : WW w Z w.heap.size (w.heap.size + 1) W H GA PA gc pc G P XA YA ZA xc yc zc ps ls cs LA es := by rw [← HZ.out]; exact ww
        clear ww hBr
        have HV := Lib.hid hv
        clear hv
        go_wp2_with fail
        rw [HZ.out]
        go_loopw [10, 12, 13, 14, 15, 48] (fun wt _ _ _ _ i wr => ∃ (k : Nat) (vo : Value), k ≤ es.length ∧ i = .int .i64 k ∧ vo = wt ∧ Below Z.heap.size Z wr ∧ wr.ownsRow Z.heap.size 46 3 vo k (flat 3 wcell ((es.take k).map fun e => M.wt1 W H G P ps ls e.s)) ∧ Hid (∀ j (hj : j < es.length), j < k → M.okS W H G P es[j].s = true)) (fun _ _ _ _ _ i _ => es.length - (intOf i).toNat)
        case atStart => exact ⟨0, _, Nat.zero_le _, rfl, rfl, Below.refl _ _, own_nil _ _ _ _ _, Lib.hid (fun j _ h => absurd h (by omega))⟩
        case round =>
          obtain ⟨k, vo, hk, rfl, rfl, hBr, hown, HN⟩ := hrel
          have ww := wz.next hBr
          by_cases hlt : k < es.length
          · obtain ⟨la, hla, hlb, a0, a1, a2, a3, a4, a5, a6, a7⟩ := ww.s.st8 hlt
            have hSk := ww.pt.at_ hlt
            have hpk := HPE.out es[k] (List.getElem_mem hlt)
            have hidk : Hid (M.stB es[k].s.id = true) := Lib.hid (by
              have h2 := HID.out
              unfold M.idsOk M.vscan at h2
              have h3 := List.all_eq_true.1 h2 k (by simpa using hlt)
              rw [M.vstep_at (by simpa using hlt), Bool.and_eq_true] at h3
              have h4 := h3.1
              rw [M.map_at hlt] at h4
              exact h4)
            have HNk : Hid (M.okS W H G P es[k].s = false → rl = [] ∧ re = 2) := Lib.hid (fun h => HNO.out (by
              unfold M.wtOk
              rw [Bool.and_eq_false_iff]
              right
              rw [List.all_eq_false]
              exact ⟨es[k].s, List.mem_map.2 ⟨_, List.getElem_mem hlt, rfl⟩, by simp [h]⟩))
            have HN2 : Hid (M.okS W H G P es[k].s = true → ∀ j (hj : j < es.length), j < k + 1 → M.okS W H G P es[j].s = true) := Lib.hid (fun h j h1 h3 => by
              by_cases e : j = k
              · subst e; exact h
              · exact HN.out j h1 (by omega))
            have HT : Hid ((es.take (k + 1)).map (fun e => M.wt1 W H G P ps ls e.s) = (es.take k).map (fun e => M.wt1 W H G P ps ls e.s) ++ [M.wt1 W H G P ps ls es[k].s]) := Lib.hid (by
              rw [List.take_succ_eq_append_getElem hlt, List.map_append]; rfl)
            obtain ⟨⟨s, A', c'⟩, hx⟩ : ∃ x, es[k] = x := ⟨_, rfl⟩
            rw [hx] at a0 a1 a2 a3 a4 a5 a6 a7 hSk hpk hidk HNk HN2 HT
            simp only at a0 a1 a2 a3 a4 a5 a6 a7 hSk hpk hidk HNk HN2 HT
            clear hx
            have hst : M.isIn16 s.id 0 511 = true := by
              have h2 := hidk.out
              unfold M.stB at h2
              rw [decide_eq_true_eq] at h2
              unfold M.isIn16
              rw [decide_eq_true h2.1, decide_eq_true (show s.id ≤ 511 by omega)]; rfl
            obtain ⟨X, HX, u0, hbX, -⟩ := boxes1 wr (stc s A' c') 40
            replace ww := ww.next hbX
            replace hSk := (hSk.below hbX).more hbX.size
            have B5 := after_ hBr hbX
            replace hown := own_below hown hbX
            obtain ⟨r0, r1, r2⟩ := ww.r.c3
            obtain ⟨m0, m1, m2, m3, m4, m5, m6, m7⟩ := u0.c8
            have hX := HX.out
            subst hla
            go_wp2_with fail
            clear hX r0 r1 r2 m0 m1 m2 m3 m4 m5 m6 m7 a0 a1 a2 a3 a4 a5 a6 a7
            refine (neighbours_ok XA YA ZA xc yc zc ps ls cs s.id X ww.rw (by omega) HV.out hst).mono ?_
            rintro e w6 ⟨NA, nc, rfl, hNA, hb6⟩
            replace ww := ww.next hb6
            replace u0 := u0.below hb6
            replace hSk := (hSk.below hb6).more hb6.size
            replace B5 := after_ B5 hb6
            replace hown := own_below hown hb6
            clear hNA
            have hnl := M.nbs_len s.id ps ls
            obtain ⟨nl, hnl2⟩ : ∃ nl, (M.nbs s.id ps ls).length = nl := ⟨_, rfl⟩
            have HNL := Lib.hid hnl2
            rw [hnl2] at hnl ⊢
            clear hnl2
            obtain ⟨c0, c1, c2, c3⟩ := ww.t.c4
            obtain ⟨m0, m1, m2, m3, m4, m5, m6, m7⟩ := u0.c8
            cases hok : M.okS W H G P s with
            | false =>
              obtain ⟨rfl, rfl⟩ := HNk.out hok
              go_wp2_with fail
              refine (people_big W H GA PA gc pc G P s A' c' w6 ww.g ww.p hSk hgl hpl hpk hok).mono ?_
              rintro e w7 ⟨rfl, hb7⟩
              go_wp2_with fail
              go_ret2
              exact RetL.none (after_ ww.below hb7)
            | true =>
              have HN3 := Lib.hid (HN2.out hok)
              go_wp2_with fail
              clear c0 c1 c2 c3 m0 m1 m2 m3 m4 m5 m6 m7
              refine (people_ok W H GA PA gc pc G P s A' c' w6 ww.tab ww.g ww.p hSk hok).mono ?_
              rintro e w7 ⟨rfl, hb7⟩
              have B7 := after_ B5 hb7
              have hown7 := own_below hown hb7
              have m0 := (u0.below hb7).c8.1
              obtain ⟨tp, htp⟩ : ∃ tp, M.total P (M.area W H G s) = tp := ⟨_, rfl⟩
              have HTP := Lib.hid htp
              rw [htp]
              clear htp
              have HT2 : Hid ((es.take (k + 1)).map (fun e => M.wt1 W H G P ps ls e.s) = (es.take k).map (fun e => M.wt1 W H G P ps ls e.s) ++ [(s.id, (nl : Int), tp)]) := Lib.hid (by rw [HT.out]; unfold M.wt1; rw [HNL.out, HTP.out])
              go_wp2_with (at_builtin; refine wpList_push (w0 := Z) (cell := wcell) (y := (s.id, (nl : Int), tp)) rfl _ _ _ rfl Z.heap.size Z.heap.size 46 i0 _ 24 Tryz.underlying32 Hi.out Hz0.out Hz1.out Hz2.out rfl (by decide) _ _ _ rfl hown7 _ _ rfl _ rfl (fun j => by unfold wcell; split; rfl; split <;> rfl) (by unfold maxLen; omega) (by omega) B7.size (Nat.le_refl _) B7 ?_; intro v' w' hown' hb' _)
              go_roundw
              case rel => exact ⟨k + 1, v', hlt, by go_num, rfl, hb', by rw [HT2.out]; exact hown', HN3⟩
              case measure => simp [intOf]; omega
          · obtain rfl : k = es.length := by omega
            obtain ⟨rfl, rfl⟩ := HYES.out (by
              unfold M.wtOk
              rw [HV.out, HID.out, Bool.true_and, Bool.true_and, List.all_eq_true]
              intro s hs
              obtain ⟨e, he, rfl⟩ := List.mem_map.1 hs
              obtain ⟨j, hj, rfl⟩ := List.getElem_of_mem he
              exact HN.out j hj hj)
            have e9 : (es.take es.length).map (fun e => M.wt1 W H G P ps ls e.s) = (es.map (·.s)).map (M.wt1 W H G P ps ls) := by rw [List.take_length, List.map_map]; rfl
            rw [e9, List.map_map] at hown
            clear e9
            go_wp2_with fail
            go_ret2
            exact RetL.of (by decide) hown ww.below
end Go.Proofs.YtciolgmljpamlaaGreatDoor
end

/- The walk of the law ScoreWeights. -/
section
namespace Go.Proofs.YtciolgmljpamlaaGreatDoor
open Go Go.RowKit
set_option maxRecDepth 100000

theorem M.stB_lo {n : Int} (h : n < 0) : M.stB n = false := by unfold M.stB; exact decide_eq_false (by omega)
theorem M.stB_hi {n : Int} (h : 511 < n) : M.stB n = false := by unfold M.stB; exact decide_eq_false (by omega)
theorem M.stB_in {n : Int} (h : ¬ n < 0) (h2 : ¬ 511 < n) : M.stB n = true := by unfold M.stB; exact decide_eq_true (by omega)

theorem Below.drew_left {w w' : World} (h : Below w.drew.heap.size w.drew w') : Below w.heap.size w w' := ⟨h.os, h.tape, h.output, h.size, h.block⟩
set_option maxHeartbeats 32000000 in
theorem scoreWeights_walk (W H : Int) (GA PA : Option Addr) (gc pc : Nat) (G P : List Int) (LA : Option Addr) (lc : Nat) (es : List SE) (XA YA ZA : Option Addr) (xc yc zc : Nat) (ps ls : List P5) (cs : List P4) (w : World) (ht : Tab w) (htw : TabW w) (hg : Sl 1 icell w w.heap.size GA G) (hp : Sl 1 icell w w.heap.size PA P) (hL : Sl 8 secell w w.heap.size LA es) (hP : Pats w es) (hr : RW w XA YA ZA ps ls cs)
    (hgl : G.length ≤ 9223372036854775807) (hpl : P.length ≤ 9223372036854775807) (hpe : ∀ e ∈ es, e.s.pat.length ≤ 9223372036854775807) :
    Calls Tryz.prog 3 #[tv W H GA PA G.length gc P.length pc, .slice LA es.length lc, ruv XA ps.length xc YA ls.length yc ZA cs.length zc] w fun e w' => e = .returned (.bool true) ∧ Below w.heap.size w w' := by
  obtain ⟨V, HW, x0, x1, hB, -⟩ := boxes2 w #[.int .i64 W, .int .i64 H, .slice GA G.length gc, .slice PA P.length pc] 24 #[.slice XA ps.length xc, .slice YA ls.length yc, .slice ZA cs.length zc] 30
  have ww : WW w V w.heap.size (w.heap.size + 1) W H GA PA gc pc G P XA YA ZA xc yc zc ps ls cs LA es := ⟨x0, x1, (hg.below hB).more hB.size, (hp.below hB).more hB.size, hr.next hB, ht.kept hB, (hL.below hB).more hB.size, hP.below hB, hB⟩
  clear x0 x1 hB
  have HPE := Lib.hid hpe
  clear hpe
  have kK : Hid (∀ w1, Below w.heap.size w w1 → Calls Tryz.prog 10 #[] w1 fun e w' => e = .returned (.bool true) ∧ Below w.heap.size w w') := Lib.hid (fun w1 h1 => (known28_any w1 (htw.kept h1)).mono fun _ _ ⟨he, hb⟩ => ⟨he, after_ h1 hb⟩)
  obtain ⟨r0, r1, r2⟩ := ww.r.c3
  have hV := HW.out
  by_cases h1 : 6 < es.length
  · have q1 : decide ((6 : Int) < (es.length : Int)) = true := decide_eq_true (by omega)
    go_enter Tryz.func3, Tryz.ntmps3
    go_wp2_with fail
    refine (kK.out V ww.below).mono ?_
    rintro e w9 ⟨rfl, hb9⟩
    go_wp2_with fail
    go_ret
    exact ⟨rfl, hb9⟩
  have q1 : decide ((6 : Int) < (es.length : Int)) = false := decide_eq_false (by omega)
  by_cases h2 : 20 < ps.length
  · have q2 : decide ((20 : Int) < (ps.length : Int)) = true := decide_eq_true (by omega)
    go_enter Tryz.func3, Tryz.ntmps3
    go_wp2_with fail
    refine (kK.out V ww.below).mono ?_
    rintro e w9 ⟨rfl, hb9⟩
    go_wp2_with fail
    go_ret
    exact ⟨rfl, hb9⟩
  have q2 : decide ((20 : Int) < (ps.length : Int)) = false := decide_eq_false (by omega)
  by_cases h3 : 20 < ls.length
  · have q3 : decide ((20 : Int) < (ls.length : Int)) = true := decide_eq_true (by omega)
    go_enter Tryz.func3, Tryz.ntmps3
    go_wp2_with fail
    refine (kK.out V ww.below).mono ?_
    rintro e w9 ⟨rfl, hb9⟩
    go_wp2_with fail
    go_ret
    exact ⟨rfl, hb9⟩
  have q3 : decide ((20 : Int) < (ls.length : Int)) = false := decide_eq_false (by omega)
  by_cases h4 : 20 < cs.length
  · have q4 : decide ((20 : Int) < (cs.length : Int)) = true := decide_eq_true (by omega)
    go_enter Tryz.func3, Tryz.ntmps3
    go_wp2_with fail
    refine (kK.out V ww.below).mono ?_
    rintro e w9 ⟨rfl, hb9⟩
    go_wp2_with fail
    go_ret
    exact ⟨rfl, hb9⟩
  have q4 : decide ((20 : Int) < (cs.length : Int)) = false := decide_eq_false (by omega)
  have kW := weights_any W H GA PA gc pc G P LA lc es XA YA ZA xc yc zc ps ls cs V ww.tab ww.g ww.p ww.s ww.pt ww.rw (by omega) (by omega) (by omega) (by omega) hgl hpl HPE.out
  obtain ⟨⟨rl, re⟩, hre⟩ : ∃ q, M.wtR W H G P ps ls cs (es.map (·.s)) = q := ⟨_, rfl⟩
  rw [hre] at kW
  simp only at kW
  have HNO : Hid (M.wtOk W H G P ps ls cs (es.map (·.s)) = false → rl = [] ∧ re = 2) := Lib.hid (fun h => by rw [M.wtR_no h] at hre; obtain ⟨e1, e2⟩ := Prod.mk.inj hre; exact ⟨e1.symm, e2.symm⟩)
  have HYES : Hid (M.wtOk W H G P ps ls cs (es.map (·.s)) = true → rl = (es.map (·.s)).map (M.wt1 W H G P ps ls) ∧ re = 0) := Lib.hid (fun h => by unfold M.wtR at hre; rw [if_pos h] at hre; obtain ⟨e1, e2⟩ := Prod.mk.inj hre; exact ⟨e1.symm, e2.symm⟩)
  have hrl : rl.length ≤ 6 := by
    cases hw : M.wtOk W H G P ps ls cs (es.map (·.s)) with
    | false => rw [(HNO.out hw).1]; simp
    | true => rw [(HYES.out hw).1]; simp; omega
  clear hre
  obtain ⟨c0, c1, c2, c3⟩ := ww.t.c4
  go_enter Tryz.func3, Tryz.ntmps3
  go_wp2_with fail
  clear hV r0 r1 r2 c0 c1 c2 c3 q1 q2 q3 q4
  refine kW.mono ?_
  rintro e w1 ⟨WA, wc, rfl, hWA, hb1⟩
  replace ww := ww.next hb1
  clear kW hb1
  obtain ⟨r0, r1, r2⟩ := ww.r.c3
  go_wp2_with fail
  clear r0 r1 r2
  refine (rvalid_any XA YA ZA xc yc zc ps ls cs w1 ww.rw (by omega) (by omega) (by omega)).mono ?_
  rintro e w2 ⟨rfl, hb2⟩
  replace ww := ww.next hb2
  replace hWA := (hWA.below hb2).more hb2.size
  clear hb2
  go_wp2_with fail
  go_loopw [9, 10] (fun gd i wr => ∃ k : Nat, k ≤ es.length ∧ i = .int .i64 k ∧ gd = .bool (M.rvalid ps ls cs && M.vscan M.idV M.idC (es.map (·.s)) k) ∧ Below w2.heap.size w2 wr) (fun _ i _ => es.length - (intOf i).toNat)
  case atStart => exact ⟨0, Nat.zero_le _, rfl, by simp [M.vscan], Below.refl _ _⟩
  case round =>
    obtain ⟨k, hk, rfl, rfl, hBr⟩ := hrel
    replace ww := ww.next hBr
    replace hWA := (hWA.below hBr).more hBr.size
    by_cases hlt : k < es.length
    · obtain ⟨la, hla, hlb, a0, -⟩ := ww.s.sp (by decide) hlt
      have hlt2 : k < (es.map (·.s)).length := by simpa using hlt
      have HSS : Hid ((M.rvalid ps ls cs && M.vscan M.idV M.idC (es.map (·.s)) (k + 1)) = ((M.rvalid ps ls cs && M.vscan M.idV M.idC (es.map (·.s)) k) && M.vstep M.idV M.idC (es.map (·.s)) k)) := Lib.hid (by rw [M.vscan_succ, Bool.and_assoc])
      have HV0 := Lib.hid (M.vstep0 (v := M.idV) (cf := M.idC) hlt2)
      have HVF := Lib.hid (M.vstepF (v := M.idV) (cf := M.idC) hlt2)
      have HVN := Lib.hid (M.vstepN (v := M.idV) (cf := M.idC) hlt2)
      rw [M.map_at hlt hlt2] at HV0 HVF HVN
      obtain ⟨⟨s, A', c'⟩, hx⟩ : ∃ x, es[k] = x := ⟨_, rfl⟩
      rw [hx] at a0 HV0 HVF HVN
      simp only at HV0 HVF HVN
      clear hx
      replace a0 : wr.cell? (la.add (k * 8)) = some (.int .i64 s.id) := a0
      generalize (M.rvalid ps ls cs && M.vscan M.idV M.idC (es.map (·.s)) k) = gd at *
      by_cases hlo : s.id < 0
      · have p1 : decide (s.id < 0) = true := decide_eq_true hlo
        have HS2 : Hid ((M.rvalid ps ls cs && M.vscan M.idV M.idC (es.map (·.s)) (k + 1)) = false) := Lib.hid (by rw [HSS.out, HV0.out (M.stB_lo hlo), Bool.and_false])
        subst hla
        go_wp2_with fail
        refine wp_region_kept wr.heap.size wr (by kernel_rfl) (by kernel_rfl) (Below.refl _ _) ?_
        repeat (go_big_quiet_step (fail))
        refine wpQuiet_nil ?_
        rintro w5 ⟨⟨_, hb5⟩, rfl⟩
        go_wp2_with fail
        go_roundw
        case rel => exact ⟨k + 1, hlt, by go_num, by rw [HS2.out], after_ hBr hb5⟩
        case measure => simp [intOf]; omega
      have p1 : decide (s.id < 0) = false := decide_eq_false hlo
      by_cases hhi : 511 < s.id
      · have p2 : decide (511 < s.id) = true := decide_eq_true hhi
        have HS2 : Hid ((M.rvalid ps ls cs && M.vscan M.idV M.idC (es.map (·.s)) (k + 1)) = false) := Lib.hid (by rw [HSS.out, HV0.out (M.stB_hi hhi), Bool.and_false])
        subst hla
        go_wp2_with fail
        refine wp_region_kept wr.heap.size wr (by kernel_rfl) (by kernel_rfl) (Below.refl _ _) ?_
        repeat (go_big_quiet_step (fail))
        refine wpQuiet_nil ?_
        rintro w5 ⟨⟨_, hb5⟩, rfl⟩
        go_wp2_with fail
        go_roundw
        case rel => exact ⟨k + 1, hlt, by go_num, by rw [HS2.out], after_ hBr hb5⟩
        case measure => simp [intOf]; omega
      have p2 : decide (511 < s.id) = false := decide_eq_false hhi
      have hst := M.stB_in hlo hhi
      by_cases h0 : 0 < k
      · obtain ⟨la2, hla2, hlb2, p0, -⟩ := ww.s.sp (k := k - 1) (by decide) (by omega)
        obtain rfl : la = la2 := Option.some.inj (hla.symm.trans hla2)
        have hvn := HVN.out hst h0
        rw [M.map_at (show k - 1 < es.length by omega)] at hvn
        obtain ⟨⟨s2, A2, c2⟩, hy⟩ : ∃ y, es[k - 1] = y := ⟨_, rfl⟩
        rw [hy] at p0 hvn
        clear hy hla2
        replace p0 : wr.cell? (la.add ((k - 1) * 8)) = some (.int .i64 s2.id) := p0
        have hvn : M.vstep M.idV M.idC (es.map (·.s)) k = decide (s2.id - s.id < 0) := hvn
        have HVN2 := Lib.hid hvn
        clear hvn hst
        by_cases hc : s.id ≤ s2.id
        · have q2 : decide (s.id ≤ s2.id) = true := decide_eq_true hc
          have HS2 : Hid ((M.rvalid ps ls cs && M.vscan M.idV M.idC (es.map (·.s)) (k + 1)) = false) := Lib.hid (by rw [HSS.out, HVN2.out, decide_eq_false (by omega), Bool.and_false])
          subst hla
          go_wp2_with fail
          refine wp_region_kept wr.heap.size wr (by kernel_rfl) (by kernel_rfl) (Below.refl _ _) ?_
          repeat (go_big_quiet_step (fail))
          refine wpQuiet_nil ?_
          rintro w5 ⟨⟨_, hb5⟩, rfl⟩
          go_wp2_with fail
          go_roundw
          case rel => exact ⟨k + 1, hlt, by go_num, by rw [HS2.out], after_ hBr hb5⟩
          case measure => simp [intOf]; omega
        · have q2 : decide (s.id ≤ s2.id) = false := decide_eq_false hc
          have HS2 : Hid ((M.rvalid ps ls cs && M.vscan M.idV M.idC (es.map (·.s)) (k + 1)) = gd) := Lib.hid (by rw [HSS.out, HVN2.out, decide_eq_true (by omega), Bool.and_true])
          subst hla
          go_wp2_with fail
          refine wp_region_kept wr.heap.size wr (by kernel_rfl) (by kernel_rfl) (Below.refl _ _) ?_
          repeat (go_big_quiet_step (fail))
          refine wpQuiet_nil ?_
          rintro w5 ⟨⟨_, hb5⟩, rfl⟩
          go_wp2_with fail
          go_roundw
          case rel => exact ⟨k + 1, hlt, by go_num, by rw [HS2.out], after_ hBr hb5⟩
          case measure => simp [intOf]; omega
      · have HS2 : Hid ((M.rvalid ps ls cs && M.vscan M.idV M.idC (es.map (·.s)) (k + 1)) = gd) := Lib.hid (by rw [HSS.out, HVF.out hst h0, Bool.and_true])
        have hk0 : decide (0 < k) = false := decide_eq_false h0
        clear h0 hst
        subst hla
        go_wp2_with fail
        refine wp_region_kept wr.heap.size wr (by kernel_rfl) (by kernel_rfl) (Below.refl _ _) ?_
        repeat (go_big_quiet_step (fail))
        refine wpQuiet_nil ?_
        rintro w5 ⟨⟨_, hb5⟩, rfl⟩
        go_wp2_with fail
        go_roundw
        case rel => exact ⟨k + 1, hlt, by go_num, by rw [HS2.out], after_ hBr hb5⟩
        case measure => simp [intOf]; omega
    · obtain rfl : k = es.length := by omega
      have HGD : Hid ((M.rvalid ps ls cs && M.vscan M.idV M.idC (es.map (·.s)) es.length) = (M.rvalid ps ls cs && M.idsOk (es.map (·.s)))) := Lib.hid (by unfold M.idsOk; rw [List.length_map])
      rw [HGD.out]
      cases hgd : (M.rvalid ps ls cs && M.idsOk (es.map (·.s))) with
      | false =>
        obtain ⟨rfl, rfl⟩ := HNO.out (by unfold M.wtOk; rw [hgd, Bool.false_and])
        go_wp2_with fail
        refine (kK.out _ ww.below).mono ?_
        rintro e w9 ⟨rfl, hb9⟩
        go_wp2_with fail
        go_ret
        exact ⟨rfl, hb9⟩
      | true =>
        obtain ⟨Z, HZ⟩ : ∃ Z, Hid (wr = Z) := ⟨_, Lib.hid rfl⟩
        have wz : WW w Z w.heap.size (w.heap.size + 1) W H GA PA gc pc G P XA YA ZA xc yc zc ps ls cs LA es := by rw [← HZ.out]; exact ww
        have hWZ : Sl 3 wcell Z Z.heap.size WA rl := by rw [← HZ.out]; exact hWA
        have HGT := Lib.hid hgd
        clear ww hBr hWA hgd HGD
        go_wp2_with fail
        rw [HZ.out]
        go_loopw [11, 12, 13] (fun i _ _ wr => ∃ k : Nat, k ≤ es.length ∧ i = .int .i64 k ∧ Below Z.heap.size Z wr ∧ Hid (∀ j (hj : j < es.length), j < k → M.okS W H G P es[j].s = true)) (fun i _ _ _ => es.length - (intOf i).toNat)
        case atStart => exact ⟨0, Nat.zero_le _, rfl, Below.refl _ _, Lib.hid (fun j _ h => absurd h (by omega))⟩
        case round =>
          obtain ⟨k, hk, rfl, hBr, HN⟩ := hrel
          have ww := wz.next hBr
          by_cases hlt : k < es.length
          · obtain ⟨la, hla, hlb, a0, a1, a2, a3, a4, a5, a6, a7⟩ := ww.s.st8 hlt
            have hSk := ww.pt.at_ hlt
            have hpk := HPE.out es[k] (List.getElem_mem hlt)
            have HNk : Hid (M.okS W H G P es[k].s = false → rl = [] ∧ re = 2) := Lib.hid (fun h => HNO.out (by
              unfold M.wtOk
              rw [Bool.and_eq_false_iff]
              right
              rw [List.all_eq_false]
              exact ⟨es[k].s, List.mem_map.2 ⟨_, List.getElem_mem hlt, rfl⟩, by simp [h]⟩))
            have HN2 : Hid (M.okS W H G P es[k].s = true → ∀ j (hj : j < es.length), j < k + 1 → M.okS W H G P es[j].s = true) := Lib.hid (fun h j h1 h3 => by
              by_cases e : j = k
              · subst e; exact h
              · exact HN.out j h1 (by omega))
            obtain ⟨⟨s, A', c'⟩, hx⟩ : ∃ x, es[k] = x := ⟨_, rfl⟩
            rw [hx] at a0 a1 a2 a3 a4 a5 a6 a7 hSk hpk HNk HN2
            simp only at a0 a1 a2 a3 a4 a5 a6 a7 hSk hpk HNk HN2
            clear hx
            obtain ⟨c0, c1, c2, c3⟩ := ww.t.c4
            have l0 := ww.t.lt
            have hgw := ww.g
            have hpw := ww.p
            have tbw := ww.tab
            cases hok : M.okS W H G P s with
            | false =>
              obtain ⟨rfl, rfl⟩ := HNk.out hok
              have kP : Hid (∀ u : Kept wr.heap.size wr, Calls Tryz.prog 13 #[tv W H GA PA G.length gc P.length pc, stv s A' c'] u.val fun e w' => e = .returned (.tuple #[.int .i64 0, .int .i64 2]) ∧ Below u.val.heap.size u.val w') := Lib.hid (fun u => people_big W H GA PA gc pc G P s A' c' u.val hgw.kept hpw.kept hSk.kept hgl hpl hpk hok)
              subst hla
              go_wp2_with fail
              refine wp_region_kept wr.heap.size wr (by kernel_rfl) (by kernel_rfl) (Below.refl _ _) ?_
              repeat (go_big_quiet_step ((go_at_call 13; exact Kept.calls (Nat.le_refl _) (kP.out _))))
              refine wpQuiet_nil ?_
              rintro w5 ⟨⟨w5x, hb5⟩, hw5⟩
              dsimp only at hw5
              subst hw5
              go_wp2_with fail
              refine (kK.out w5 (after_ ww.below hb5)).mono ?_
              rintro e w9 ⟨rfl, hb9⟩
              go_wp2_with fail
              go_ret
              exact ⟨rfl, hb9⟩
            | true =>
              have HN3 := Lib.hid (HN2.out hok)
              have kP : Hid (∀ u : Kept wr.heap.size wr, Calls Tryz.prog 13 #[tv W H GA PA G.length gc P.length pc, stv s A' c'] u.val fun e w' => e = .returned (.tuple #[.int .i64 (M.total P (M.area W H G s)), .int .i64 0]) ∧ Below u.val.heap.size u.val w') := Lib.hid (fun u => people_ok W H GA PA gc pc G P s A' c' u.val (tbw.kept u.h) hgw.kept hpw.kept hSk.kept hok)
              subst hla
              go_wp2_with fail
              refine wp_region_kept wr.heap.size wr (by kernel_rfl) (by kernel_rfl) (Below.refl _ _) ?_
              repeat (go_big_quiet_step ((go_at_call 13; exact Kept.calls (Nat.le_refl _) (kP.out _))))
              refine wpQuiet_nil ?_
              rintro w5 ⟨⟨_, hb5⟩, rfl⟩
              go_wp2_with fail
              go_roundw
              case rel => exact ⟨k + 1, hlt, by go_num, after_ hBr hb5, HN3⟩
              case measure => simp [intOf]; omega
          · obtain rfl : k = es.length := by omega
            obtain ⟨hrl2, rfl⟩ := HYES.out (by
              unfold M.wtOk
              rw [HGT.out, Bool.true_and, List.all_eq_true]
              intro s hs
              obtain ⟨e, he, rfl⟩ := List.mem_map.1 hs
              obtain ⟨j, hj, rfl⟩ := List.getElem_of_mem he
              exact HN.out j hj hj)
            have hln : rl.length = es.length := by rw [hrl2]; simp
            have HRL := Lib.hid hrl2
            have HLN := Lib.hid hln
            clear hrl2
            obtain ⟨Y, HY⟩ : ∃ Y, Hid (wr = Y) := ⟨_, Lib.hid rfl⟩
            have wy : WW w Y w.heap.size (w.heap.size + 1) W H GA PA gc pc G P XA YA ZA xc yc zc ps ls cs LA es := by rw [← HY.out]; exact ww
            have hWY : Sl 3 wcell Y Y.heap.size WA rl := by rw [← HY.out]; exact (hWZ.below hBr).more hBr.size
            clear ww hBr hWZ wz HZ
            go_wp2_with fail
            rw [HY.out]
            go_loopw [14, 15, 16, 17, 18] (fun i _ _ _ _ wr => ∃ k : Nat, k ≤ es.length ∧ i = .int .i64 k ∧ Below Y.heap.size Y wr) (fun i _ _ _ _ _ => es.length - (intOf i).toNat)
            case atStart => exact ⟨0, Nat.zero_le _, rfl, Below.refl _ _⟩
            case round =>
              obtain ⟨k, hk, rfl, hBr⟩ := hrel
              have ww := wy.next hBr
              have hWr := (hWY.below hBr).more hBr.size
              by_cases hlt : k < es.length
              · obtain ⟨la, hla, hlb, a0, a1, a2, a3, a4, a5, a6, a7⟩ := ww.s.st8 hlt
                have hSk := ww.pt.at_ hlt
                have hlt2 : k < rl.length := by rw [HLN.out]; exact hlt
                obtain ⟨wa, hwa, hwb, b0, hbj⟩ := hWr.sp (by decide) hlt2
                have b1 := hbj 1 (by decide) (by decide)
                have b2 := hbj 2 (by decide) (by decide)
                clear hbj
                have hrk : rl[k] = M.wt1 W H G P ps ls es[k].s := by
                  have e := HRL.out
                  subst e
                  simp
                rw [hrk] at b0 b1 b2
                have hok := HN.out es.length
                have hokk : M.okS W H G P es[k].s = true := HN.out k hlt hlt
                have hidk : M.isIn16 es[k].s.id 0 511 = true := by
                  have h2 := ((Bool.and_eq_true _ _).mp HGT.out).2
                  unfold M.idsOk M.vscan at h2
                  have h3 := List.all_eq_true.1 h2 k (by simpa using hlt)
                  rw [M.vstep_at (by simpa using hlt), Bool.and_eq_true] at h3
                  have h4 := h3.1
                  rw [M.map_at hlt] at h4
                  unfold M.idV M.stB at h4
                  rw [decide_eq_true_eq] at h4
                  unfold M.isIn16
                  rw [decide_eq_true h4.1, decide_eq_true (show es[k].s.id ≤ 511 by omega)]; rfl
                clear hok hrk
                obtain ⟨⟨s, A', c'⟩, hx⟩ : ∃ x, es[k] = x := ⟨_, rfl⟩
                rw [hx] at a0 a1 a2 a3 a4 a5 a6 a7 hSk b0 b1 b2 hokk hidk
                simp only at a0 a1 a2 a3 a4 a5 a6 a7 hSk hokk hidk
                simp only [M.wt1, wcell] at b0 b1 b2
                replace b0 : wr.cell? (wa.add (k * 3)) = some (.int .i64 s.id) := b0
                replace b1 : wr.cell? ⟨(wa.add (k * 3)).block, (wa.add (k * 3)).off + 1, none⟩ = some (.int .i64 ((M.nbs s.id ps ls).length : Int)) := b1
                replace b2 : wr.cell? ⟨(wa.add (k * 3)).block, (wa.add (k * 3)).off + 2, none⟩ = some (.int .i64 (M.total P (M.area W H G s))) := b2
                clear hx
                have hvr := ((Bool.and_eq_true _ _).mp HGT.out).1
                have HVR := Lib.hid hvr
                clear hvr
                obtain ⟨c0, c1, c2, c3⟩ := ww.t.c4
                have l0 := ww.t.lt
                have hgw := ww.g
                have hpw := ww.p
                have tbw := ww.tab
                have kP : Hid (∀ u : Kept wr.heap.size wr, Calls Tryz.prog 13 #[tv W H GA PA G.length gc P.length pc, stv s A' c'] u.val fun e w' => e = .returned (.tuple #[.int .i64 (M.total P (M.area W H G s)), .int .i64 0]) ∧ Below u.val.heap.size u.val w') := Lib.hid (fun u => people_ok W H GA PA gc pc G P s A' c' u.val (tbw.kept u.h) hgw.kept hpw.kept hSk.kept hokk)
                generalize M.total P (M.area W H G s) = tp at *
                subst hla
                go_wp2_with fail
                refine wp_region_kept wr.heap.size wr (by kernel_rfl) (by kernel_rfl) (Below.refl _ _) ?_
                repeat (go_big_quiet_step ((go_at_call 13; exact Kept.calls (Nat.le_refl _) (kP.out _))))
                refine wpQuiet_nil ?_
                rintro w5 ⟨⟨w5x, hb5⟩, hw5⟩
                dsimp only at hw5
                subst hw5
                replace ww := ww.next hb5
                replace a0 := (hb5.cell (p := la.add (k * 8)) hlb).trans a0
                replace b0 := (hb5.cell (p := wa.add (k * 3)) hwb).trans b0
                replace b1 := (hb5.cell (p := ⟨(wa.add (k * 3)).block, (wa.add (k * 3)).off + 1, none⟩) hwb).trans b1
                replace b2 := (hb5.cell (p := ⟨(wa.add (k * 3)).block, (wa.add (k * 3)).off + 2, none⟩) hwb).trans b2
                replace hlb := Nat.lt_of_lt_of_le hlb hb5.size
                replace hwb := Nat.lt_of_lt_of_le hwb hb5.size
                replace hBr := after_ hBr hb5
                clear a1 a2 a3 a4 a5 a6 a7 c0 c1 c2 c3 l0 hgw hpw tbw kP hSk
                obtain ⟨r0, r1, r2⟩ := ww.r.c3
                have l1 := ww.r.lt
                have hrw := ww.rw
                have kN := neighbours_ok XA YA ZA xc yc zc ps ls cs s.id w5.drew (hrw.next (Below.refl _ _).drew) (by omega) HVR.out hidk
                obtain ⟨nl, hnl⟩ : ∃ nl, (M.nbs s.id ps ls).length = nl := ⟨_, rfl⟩
                have k0 : w5.cell? ⟨w.heap.size + 1, 0, none⟩ = some (.slice XA ps.length xc) ∧ w5.cell? ⟨w.heap.size + 1, 1, none⟩ = some (.slice YA ls.length yc) ∧ w5.cell? ⟨w.heap.size + 1, 2, none⟩ = some (.slice ZA cs.length zc) ∧ w5.cell? (la.add (k * 8)) = some (.int .i64 s.id) := ⟨r0, r1, r2, a0⟩
                have k1 : w5.drew.cell? ⟨w.heap.size + 1, 0, none⟩ = some (.slice XA ps.length xc) ∧ w5.drew.cell? ⟨w.heap.size + 1, 1, none⟩ = some (.slice YA ls.length yc) ∧ w5.drew.cell? ⟨w.heap.size + 1, 2, none⟩ = some (.slice ZA cs.length zc) ∧ w5.drew.cell? (la.add (k * 8)) = some (.int .i64 s.id) := k0
                have HNL := Lib.hid hnl
                clear hnl
                go_wp2_with fail
                go_region_held3 (fun w' => w'.cell? ⟨w.heap.size + 1, 0, none⟩ = some (.slice XA ps.length xc) ∧ w'.cell? ⟨w.heap.size + 1, 1, none⟩ = some (.slice YA ls.length yc) ∧ w'.cell? ⟨w.heap.size + 1, 2, none⟩ = some (.slice ZA cs.length zc) ∧ w'.cell? (la.add (k * 8)) = some (.int .i64 s.id)) (first | with_reducible exact k1 | with_reducible exact k0 | with_reducible exact k2)
                  ((go_at_call 14; (refine kN.mono ?_; rintro e w6 ⟨NA, nc, rfl, hNA, hb6⟩; have hb6x : Below w5.heap.size w5 w6 := Below.drew_left hb6; have k2 : w6.cell? ⟨w.heap.size + 1, 0, none⟩ = some (.slice XA ps.length xc) ∧ w6.cell? ⟨w.heap.size + 1, 1, none⟩ = some (.slice YA ls.length yc) ∧ w6.cell? ⟨w.heap.size + 1, 2, none⟩ = some (.slice ZA cs.length zc) ∧ w6.cell? (la.add (k * 8)) = some (.int .i64 s.id) := ⟨(ww.r.below hb6x).c3.1, (ww.r.below hb6x).c3.2.1, (ww.r.below hb6x).c3.2.2, (hb6x.cell (p := la.add (k * 8)) hlb).trans a0⟩)))
                rw [HNL.out] at b1 ⊢
                replace ww := ww.next hb6x
                replace a0 := k2.2.2.2
                replace b0 := (hb6x.cell (p := wa.add (k * 3)) hwb).trans b0
                replace b1 := (hb6x.cell (p := ⟨(wa.add (k * 3)).block, (wa.add (k * 3)).off + 1, none⟩) hwb).trans b1
                replace b2 := (hb6x.cell (p := ⟨(wa.add (k * 3)).block, (wa.add (k * 3)).off + 2, none⟩) hwb).trans b2
                replace hlb := Nat.lt_of_lt_of_le hlb hb6x.size
                replace hwb := Nat.lt_of_lt_of_le hwb hb6x.size
                replace hBr := after_ hBr hb6x
                clear r0 r1 r2 k0 k1 k2 kN hNA hrw l1
                have q1 : (s.id != s.id) = false := by simp
                have q2 : ((nl : Int) != (nl : Int)) = false := by simp
                have q3 : (tp != tp) = false := by simp
                subst hwa
                go_wp2_with fail
                refine wp_region_kept w6.heap.size w6 (by kernel_rfl) (by kernel_rfl) (Below.refl _ _) ?_
                repeat (go_big_quiet_step (fail))
                refine wpQuiet_nil ?_
                rintro w7 ⟨⟨_, hb7⟩, rfl⟩
                go_wp2_with fail
                go_roundw
                case rel => exact ⟨k + 1, hlt, by go_num, after_ hBr hb7⟩
                case measure => simp [intOf]; omega
              · obtain rfl : k = es.length := by omega
                go_wp2_with fail
                refine (kK.out _ ww.below).mono ?_
                rintro e w9 ⟨rfl, hb9⟩
                go_wp2_with fail
                go_ret
                exact ⟨rfl, hb9⟩
end Go.Proofs.YtciolgmljpamlaaGreatDoor
end
