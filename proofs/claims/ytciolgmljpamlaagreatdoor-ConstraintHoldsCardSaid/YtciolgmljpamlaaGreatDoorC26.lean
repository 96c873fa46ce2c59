/- A bundle of texts: Ref15, Ref15b, HoMath, UnMath, Peo. -/
import Derived.Test.YtciolgmljpamlaaGreatDoorC22
section
namespace Go.Proofs.YtciolgmljpamlaaGreatDoor
open Go Go.RowKit
set_option maxRecDepth 100000
def M.small (W H : Int) (gl pl : Nat) (n : Int) (l : List St) : Bool := (l.all fun s => decide (s.pat.length ≤ 20)) && (decide (W ≤ 64) && decide (H ≤ 64) && decide (-64 ≤ W) && decide (-64 ≤ H) && decide (W * H ≤ n) && decide ((gl : Int) ≤ n) && decide ((pl : Int) ≤ n))
set_option maxHeartbeats 8000000 in
theorem rSmall_any (W H : Int) (GA PA : Option Addr) (gc pc gl pl : Nat) (n : Int) (LA : Option Addr) (lc : Nat) (es : List SE) (w : World) (hL : Sl 8 secell w w.heap.size LA es) (hl : es.length ≤ 50) :
    Calls Tryz.prog 20 #[tv W H GA PA gl gc pl pc, .int .i64 n, .slice LA es.length lc] w fun e w' => e = .returned (.bool (M.small W H gl pl n (es.map (·.s)))) ∧ Below w.heap.size w w' := by
  obtain ⟨V, HW, x0, hB, -⟩ := boxes1 w #[.int .i64 W, .int .i64 H, .slice GA gl gc, .slice PA pl pc] 24
  obtain ⟨r, hr⟩ : ∃ r, M.small W H gl pl n (es.map (·.s)) = r := ⟨_, rfl⟩
  have HNO : Hid (∀ k (hk : k < es.length), 20 < es[k].s.pat.length → false = r) := Lib.hid (fun k hk h => by
    rw [← hr]; unfold M.small
    have h2 : ((es.map (·.s)).all fun s => decide (s.pat.length ≤ 20)) = false := by
      rw [List.all_eq_false]
      exact ⟨es[k].s, List.mem_map.2 ⟨_, List.getElem_mem hk, rfl⟩, by simp; omega⟩
    rw [h2]; rfl)
  have HYES : Hid ((∀ k (hk : k < es.length), es[k].s.pat.length ≤ 20) → (decide (W ≤ 64) && decide (H ≤ 64) && decide (-64 ≤ W) && decide (-64 ≤ H) && decide (W * H ≤ n) && decide ((gl : Int) ≤ n) && decide ((pl : Int) ≤ n)) = r) := Lib.hid (fun h => by
    rw [← hr]; unfold M.small
    have h2 : ((es.map (·.s)).all fun s => decide (s.pat.length ≤ 20)) = true := by
      rw [List.all_eq_true]
      intro s hs
      obtain ⟨e, he, rfl⟩ := List.mem_map.1 hs
      obtain ⟨j, hj, rfl⟩ := List.getElem_of_mem he
      simpa using h j hj
    rw [h2]; rfl)
  rw [hr]
  clear hr
  go_enter Tryz.func20, Tryz.ntmps20
  go_wp2_with fail
  rw [HW.out]
  go_loop [7] (fun i => ∃ k : Nat, k ≤ es.length ∧ i = .int .i64 k ∧ Hid (∀ j (hj : j < es.length), j < k → es[j].s.pat.length ≤ 20)) (fun i => es.length - (intOf i).toNat)
  case atStart => exact ⟨0, Nat.zero_le _, rfl, Lib.hid (fun j _ h => absurd h (by omega))⟩
  case round =>
    obtain ⟨k, hk, rfl, HN⟩ := hrel
    have q100 : decide ((k : Int) < 100) = true := decide_eq_true (by omega)
    by_cases hlt : k < es.length
    · obtain ⟨la, rfl, hlb, a0, a1, a2, a3, a4, a5, a6, a7⟩ := (hL.below hB).st8 hlt
      have HA := Lib.hid (HNO.out k hlt)
      have HN2 : Hid (es[k].s.pat.length ≤ 20 → ∀ j (hj : j < es.length), j < k + 1 → es[j].s.pat.length ≤ 20) := Lib.hid (fun h j h1 h3 => by
        by_cases e : j = k
        · subst e; exact h
        · exact HN.out j h1 (by omega))
      generalize es[k] = ek at *
      obtain ⟨s, A, c⟩ := ek
      simp only at a5 HA HN2
      clear a0 a1 a2 a3 a4 a6 a7
      generalize s.pat.length = m at *
      by_cases hb : 20 < (m : Int)
      · have q : decide (20 < (m : Int)) = true := decide_eq_true hb
        have q' : decide (20 < m) = true := decide_eq_true (by omega)
        have HF := Lib.hid (HA.out (by omega))
        go_wp2_with fail
        go_ret
        exact ⟨ret_bool HF.out, hB⟩
      · have q : decide (20 < (m : Int)) = false := decide_eq_false hb
        have q' : decide (20 < m) = false := decide_eq_false (by omega)
        have HN3 := Lib.hid (HN2.out (by omega))
        go_wp2_with fail
        go_round
        case rel => exact ⟨k + 1, hlt, by go_num, HN3⟩
        case measure => simp [intOf]; omega
    · have HF := Lib.hid (HYES.out (fun j hj => HN.out j hj (by omega)))
      obtain ⟨c0, c1, c2, c3⟩ := x0.c4
      clear HN
      by_cases e1 : W ≤ 64
      · have p1 : decide (W ≤ 64) = true := decide_eq_true e1
        by_cases e2 : H ≤ 64
        · have p2 : decide (H ≤ 64) = true := decide_eq_true e2
          by_cases e3 : -64 ≤ W
          · have p3 : decide (-64 ≤ W) = true := decide_eq_true e3
            by_cases e4 : -64 ≤ H
            · have p4 : decide (-64 ≤ H) = true := decide_eq_true e4
              have hm : -4096 ≤ W * H ∧ W * H ≤ 4096 := by
                have h1 : (W * H).natAbs = W.natAbs * H.natAbs := Int.natAbs_mul W H
                have h2 : W.natAbs * H.natAbs ≤ 64 * 64 := Nat.mul_le_mul (by omega) (by omega)
                omega
              rw [p1, p2, p3, p4] at HF
              generalize hwh : W * H = wh at *
              by_cases e5 : wh ≤ n
              · have p5 : decide (wh ≤ n) = true := decide_eq_true e5
                rw [p5] at HF
                by_cases e6 : (gl : Int) ≤ n
                · have p6 : decide ((gl : Int) ≤ n) = true := decide_eq_true e6
                  rw [p6] at HF
                  have HG : Hid (decide ((pl : Int) ≤ n) = r) := Lib.hid (by have := HF.out; simpa using this)
                  go_wp2_with fail
                  go_ret
                  exact ⟨ret_bool HG.out, hB⟩
                · have p6 : decide ((gl : Int) ≤ n) = false := decide_eq_false e6
                  rw [p6] at HF
                  have HG : Hid (false = r) := Lib.hid (by have := HF.out; simpa using this)
                  go_wp2_with fail
                  go_ret
                  exact ⟨ret_bool HG.out, hB⟩
              · have p5 : decide (wh ≤ n) = false := decide_eq_false e5
                rw [p5] at HF
                have HG : Hid (false = r) := Lib.hid (by have := HF.out; simpa using this)
                go_wp2_with fail
                go_ret
                exact ⟨ret_bool HG.out, hB⟩
            · have p4 : decide (-64 ≤ H) = false := decide_eq_false e4
              rw [p4] at HF
              have HG : Hid (false = r) := Lib.hid (by have := HF.out; simpa using this)
              go_wp2_with fail
              go_ret
              exact ⟨ret_bool HG.out, hB⟩
          · have p3 : decide (-64 ≤ W) = false := decide_eq_false e3
            rw [p3] at HF
            have HG : Hid (false = r) := Lib.hid (by have := HF.out; simpa using this)
            go_wp2_with fail
            go_ret
            exact ⟨ret_bool HG.out, hB⟩
        · have p2 : decide (H ≤ 64) = false := decide_eq_false e2
          rw [p2] at HF
          have HG : Hid (false = r) := Lib.hid (by have := HF.out; simpa using this)
          go_wp2_with fail
          go_ret
          exact ⟨ret_bool HG.out, hB⟩
      · have p1 : decide (W ≤ 64) = false := decide_eq_false e1
        rw [p1] at HF
        have HG : Hid (false = r) := Lib.hid (by have := HF.out; simpa using this)
        go_wp2_with fail
        go_ret
        exact ⟨ret_bool HG.out, hB⟩
def M.allowed (W H : Int) (G P : List Int) (l : List St) : Bool := M.tvalid W H G P && l.all (M.okS W H G P)
set_option maxHeartbeats 8000000 in
theorem rAllowed15_any (W H : Int) (GA PA : Option Addr) (gc pc : Nat) (G P : List Int) (LA : Option Addr) (lc : Nat) (es : List SE) (w : World) (hg : Sl 1 icell w w.heap.size GA G) (hp : Sl 1 icell w w.heap.size PA P) (hL : Sl 8 secell w w.heap.size LA es) (hP : Pats w es)
    (hgl : G.length ≤ 9223372036854775807) (hl : es.length ≤ 1000) (hpl : ∀ e ∈ es, e.s.pat.length ≤ 1000) :
    Calls Tryz.prog 22 #[tv W H GA PA G.length gc P.length pc, .slice LA es.length lc] w fun e w' => e = .returned (.bool (M.allowed W H G P (es.map (·.s)))) ∧ Below w.heap.size w w' := by
  obtain ⟨V, HW, x0, hB, -⟩ := boxes1 w #[.int .i64 W, .int .i64 H, .slice GA G.length gc, .slice PA P.length pc] 24
  obtain ⟨r, hr⟩ : ∃ r, M.allowed W H G P (es.map (·.s)) = r := ⟨_, rfl⟩
  have HNO : Hid (M.tvalid W H G P = false → false = r) := Lib.hid (fun h => by rw [← hr]; unfold M.allowed; rw [h]; rfl)
  have HNK : Hid (∀ k (hk : k < es.length), M.okS W H G P es[k].s = false → false = r) := Lib.hid (fun k hk h => by
    rw [← hr]; unfold M.allowed
    have h2 : ((es.map (·.s)).all (M.okS W H G P)) = false := by
      rw [List.all_eq_false]
      exact ⟨es[k].s, List.mem_map.2 ⟨_, List.getElem_mem hk, rfl⟩, by rw [h]; decide⟩
    rw [h2, Bool.and_false])
  have HYES : Hid (M.tvalid W H G P = true → (∀ k (hk : k < es.length), M.okS W H G P es[k].s = true) → true = r) := Lib.hid (fun h hk => by
    rw [← hr]; unfold M.allowed
    have h2 : ((es.map (·.s)).all (M.okS W H G P)) = true := by
      rw [List.all_eq_true]
      intro s hs
      obtain ⟨e, he, rfl⟩ := List.mem_map.1 hs
      obtain ⟨j, hj, rfl⟩ := List.getElem_of_mem he
      exact hk j hj
    rw [h, h2]; rfl)
  rw [hr]
  clear hr
  go_enter Tryz.func22, Tryz.ntmps22
  go_wp2_with fail
  rw [HW.out]
  refine (rValid_any W H GA PA gc pc G P V ((hg.below hB).more hB.size) ((hp.below hB).more hB.size) hgl).mono ?_
  rintro e w1 ⟨rfl, hb1⟩
  have B1 := after_ hB hb1
  cases hc : M.tvalid W H G P with
  | false =>
    have HF := Lib.hid (HNO.out hc)
    go_wp2_with fail
    go_ret
    exact ⟨ret_bool HF.out, B1⟩
  | true =>
    have y0 := x0.below hb1
    have HC := Lib.hid hc
    clear hc
    go_wp2_with fail
    go_loopw [5] (fun i wr => ∃ k : Nat, k ≤ es.length ∧ i = .int .i64 k ∧ Below w.heap.size w wr ∧ Below w1.heap.size w1 wr ∧ Hid (∀ j (hj : j < es.length), j < k → M.okS W H G P es[j].s = true)) (fun i _ => es.length - (intOf i).toNat)
    case atStart => exact ⟨0, Nat.zero_le _, rfl, B1, Below.refl _ _, Lib.hid (fun j _ h => absurd h (by omega))⟩
    case round =>
      obtain ⟨k, hk, rfl, hBw, hBr, HN⟩ := hrel
      by_cases hlt : k < es.length
      · obtain ⟨la, rfl, hlb, a0, a1, a2, a3, a4, a5, a6, a7⟩ := ((hL.below hBw).more hBw.size).st8 hlt
        have hS1 := (hP.below hBw).at_ hlt
        have hpk := hpl _ (List.getElem_mem hlt)
        have HK1 := Lib.hid (HNK.out k hlt)
        have HN2 : Hid (M.okS W H G P es[k].s = true → ∀ j (hj : j < es.length), j < k + 1 → M.okS W H G P es[j].s = true) := Lib.hid (fun h j h1 h3 => by
          by_cases e : j = k
          · subst e; exact h
          · exact HN.out j h1 (by omega))
        have z0 := y0.below hBr
        obtain ⟨c0, c1, c2, c3⟩ := z0.c4
        have l0 := z0.lt
        have hg1 := (hg.below hBw).more hBw.size
        have hp1 := (hp.below hBw).more hBw.size
        obtain ⟨p, hp'⟩ : ∃ p, M.svalid es[k].s = p := ⟨_, rfl⟩
        obtain ⟨q, hq'⟩ : ∃ q, M.has W H G P es[k].s.x es[k].s.y = q := ⟨_, rfl⟩
        have HPQ : Hid (M.okS W H G P es[k].s = (p && q)) := Lib.hid (by rw [M.okS_eq, hp', hq'])
        have kV : Hid (∀ w1, Sl 1 icell w1 w1.heap.size es[k].A es[k].s.pat → Calls Tryz.prog 65 #[stv es[k].s es[k].A es[k].c] w1 fun e w' => e = .returned (.bool p) ∧ Below w1.heap.size w1 w') := Lib.hid (fun w1 hh => by rw [← hp']; exact rSValid_any _ _ _ w1 hh (by omega))
        have kH : Hid (∀ w1, Sl 1 icell w1 w1.heap.size GA G → Sl 1 icell w1 w1.heap.size PA P → Calls Tryz.prog 66 #[tv W H GA PA G.length gc P.length pc, cv es[k].s.x es[k].s.y] w1 fun e w' => e = .returned (.bool q) ∧ Below w1.heap.size w1 w') := Lib.hid (fun w1 hh hk => by rw [← hq']; exact rHas_any W H GA PA gc pc G P _ _ w1 hh hk hgl)
        clear hp' hq'
        cases p <;> cases q
        case true.true =>
          have HN3 := Lib.hid (HN2.out (by rw [HPQ.out]; rfl))
          go_wp2_with fail
          refine wp_region_kept wr.heap.size wr (by kernel_rfl) (by kernel_rfl) (Below.refl _ _) ?_
          repeat (go_big_quiet_step ((first | (go_at_call 65; exact Kept.calls (Nat.le_refl _) (kV.out _ hS1.kept)) | (go_at_call 67; exact Kept.calls (Nat.le_refl _) (rCell_any _ _ _ _)) | (go_at_call 66; exact Kept.calls (Nat.le_refl _) (kH.out _ hg1.kept hp1.kept)))))
          refine wpQuiet_nil ?_
          rintro w5 ⟨⟨_, hb5⟩, rfl⟩
          go_wp2_with fail
          go_roundw
          case rel => exact ⟨k + 1, hlt, by go_num, after_ hBw hb5, after_ hBr hb5, HN3⟩
          case measure => simp [intOf]; omega
        all_goals
          have HF := Lib.hid (HK1.out (by rw [HPQ.out]; rfl))
          go_wp2_with fail
          refine wp_region_kept wr.heap.size wr (by kernel_rfl) (by kernel_rfl) (Below.refl _ _) ?_
          repeat (go_big_quiet_step ((first | (go_at_call 65; exact Kept.calls (Nat.le_refl _) (kV.out _ hS1.kept)) | (go_at_call 67; exact Kept.calls (Nat.le_refl _) (rCell_any _ _ _ _)) | (go_at_call 66; exact Kept.calls (Nat.le_refl _) (kH.out _ hg1.kept hp1.kept)))))
          refine wpQuiet_nil ?_
          rintro w5 ⟨⟨_, hb5⟩, rfl⟩
          go_wp2_with fail
          go_ret
          exact ⟨ret_bool HF.out, after_ hBw hb5⟩
      · have HF := Lib.hid (HYES.out HC.out (fun j hj => HN.out j hj (by omega)))
        go_wp2_with fail
        go_ret
        exact ⟨ret_bool HF.out, hBw⟩
end Go.Proofs.YtciolgmljpamlaaGreatDoor
end

section
namespace Go.Proofs.YtciolgmljpamlaaGreatDoor
open Go Go.RowKit
set_option maxRecDepth 100000
def M.hit (W : Int) (G : List Int) (a b : St) (r : Int) (i : Nat) : Bool := M.cov W G a (M.cx W i) (M.cy W i) && M.dist W G a r (M.cx W i) (M.cy W i) [b]
def M.lostTo (W : Int) (G : List Int) (a b : St) (r : Int) (n : Nat) : List Int := ((List.range n).filter fun (i : Nat) => M.hit W G a b r i).map fun (i : Nat) => (i : Int)
theorem M.lostTo_eq (W H : Int) (G : List Int) (a b : St) (r : Int) : M.lost W H G a r [b] = M.lostTo W G a b r (W * H).toNat := rfl
theorem M.lostTo_succ (W : Int) (G : List Int) (a b : St) (r : Int) (n : Nat) : M.lostTo W G a b r (n + 1) = M.lostTo W G a b r n ++ if M.hit W G a b r n then [(n : Int)] else [] := by
  unfold M.lostTo
  rw [List.range_succ, List.filter_append, List.map_append]
  congr 1
  by_cases h : M.hit W G a b r n = true
  · simp [h]
  · simp [h]
theorem M.lostTo_len (W : Int) (G : List Int) (a b : St) (r : Int) (n : Nat) : (M.lostTo W G a b r n).length ≤ n := by
  unfold M.lostTo
  rw [List.length_map]
  have := List.length_filter_le (fun (i : Nat) => M.hit W G a b r i) (List.range n)
  simpa using this
theorem M.dist1 (W : Int) (G : List Int) (a b : St) (r cx cy : Int) : M.dist W G a r cx cy [b] = decide (M.field W G a cx cy - M.field W G b cx cy < r) := by
  unfold M.dist
  simp
set_option maxHeartbeats 8000000 in
theorem rHit_ok (W H : Int) (GA PA : Option Addr) (gc pc : Nat) (G P : List Int) (a b : St) (A B : Option Addr) (c d : Nat) (o : Int) (i : Nat) (w : World) (hg : Sl 1 icell w w.heap.size GA G) (hS : Sl 1 icell w w.heap.size A a.pat) (hT : Sl 1 icell w w.heap.size B b.pat) (hoa : M.okS W H G P a = true) (hob : M.okS W H G P b = true) (hi : (i : Int) < W * H) :
    Calls Tryz.prog 131 #[tv W H GA PA G.length gc P.length pc, stv a A c, stv b B d, .int .i64 o, .int .i64 i] w fun e w' => e = .returned (.bool (M.hit W G a b (M.ratio o) i)) ∧ Below w.heap.size w w' := by
  obtain ⟨V, HW, x0, x1, x2, hB, -⟩ := boxes3 w #[.int .i64 W, .int .i64 H, .slice GA G.length gc, .slice PA P.length pc] 24 (stc a A c) 40 (stc b B d) 40
  obtain ⟨-, htv, -, -⟩ := M.okS_iff.1 hoa
  obtain ⟨r1, r2, -⟩ := M.tvalid_iff.1 htv
  obtain ⟨wh1, wh2⟩ := M.wh_le r1 r2
  obtain ⟨hcx, hcy⟩ := M.cell_in (W := W) (H := H) (i := i) (by omega) hi
  have hA := M.okS_F hoa hcx.1 hcx.2 hcy.1 hcy.2
  have hBk := M.okS_F hob hcx.1 hcx.2 hcy.1 hcy.2
  have fa1 := M.field_bd hA
  have fb1 := M.field_bd hBk
  obtain ⟨r, hr⟩ : ∃ r, M.hit W G a b (M.ratio o) i = r := ⟨_, rfl⟩
  rw [hr]
  unfold M.hit at hr
  rw [M.dist1] at hr
  have HR := Lib.hid hr
  clear hr htv
  obtain ⟨c0, c1, c2, c3⟩ := x0.c4
  have hV := HW.out
  go_enter Tryz.func131, Tryz.ntmps131
  go_wp2_with fail
  clear hV c0 c1 c2 c3
  refine (rAt_ok W H GA PA G.length gc P.length pc i V r1 (by omega)).mono ?_
  rintro e w1 ⟨rfl, hb1⟩
  have B1 := after_ hB hb1
  obtain ⟨X, HX, u0, hbX, -⟩ := boxes1 w1 #[.int .i64 (M.cx W i), .int .i64 (M.cy W i)] 113
  have BX := after_ B1 hbX
  have y0 := (x0.below hb1).below hbX
  have y1 := (x1.below hb1).below hbX
  have y2 := (x2.below hb1).below hbX
  obtain ⟨c0, c1, c2, c3⟩ := y0.c4
  obtain ⟨b0, b1, b2, b3, b4, b5, b6, b7⟩ := y1.c8
  obtain ⟨e0, e1, e2, e3, e4, e5, e6, e7⟩ := y2.c8
  obtain ⟨d0, d1⟩ := u0.c2
  have l0 := y0.lt
  have l1 := y1.lt
  have l2 := y2.lt
  have l3 := u0.lt
  have hg1 := (hg.below BX).more BX.size
  have hS1 := (hS.below BX).more BX.size
  have hT1 := (hT.below BX).more BX.size
  obtain ⟨cv', HCV⟩ : ∃ z, Hid (M.cov W G a (M.cx W i) (M.cy W i) = z) := ⟨_, Lib.hid rfl⟩
  rw [HCV.out] at HR
  have kC : Hid (∀ w1, Sl 1 icell w1 w1.heap.size GA G → Sl 1 icell w1 w1.heap.size A a.pat → Calls Tryz.prog 132 #[tv W H GA PA G.length gc P.length pc, stv a A c, cv (M.cx W i) (M.cy W i)] w1 fun e w' => e = .returned (.bool cv') ∧ Below w1.heap.size w1 w') := Lib.hid (fun w1 h1 h2 => by rw [← HCV.out]; exact rCovers_ok W H GA PA gc pc G P a A c _ _ w1 h1 h2 hA)
  have kF1 : Hid (∀ w1, Sl 1 icell w1 w1.heap.size GA G → Sl 1 icell w1 w1.heap.size A a.pat → Calls Tryz.prog 171 #[tv W H GA PA G.length gc P.length pc, stv a A c, cv (M.cx W i) (M.cy W i)] w1 fun e w' => e = .returned (.int .i64 (M.field W G a (M.cx W i) (M.cy W i))) ∧ Below w1.heap.size w1 w') := Lib.hid (fun w1 h1 h2 => rField_ok W H GA PA gc pc G P a A c _ _ w1 h1 h2 hA)
  have kF2 : Hid (∀ w1, Sl 1 icell w1 w1.heap.size GA G → Sl 1 icell w1 w1.heap.size B b.pat → Calls Tryz.prog 171 #[tv W H GA PA G.length gc P.length pc, stv b B d, cv (M.cx W i) (M.cy W i)] w1 fun e w' => e = .returned (.int .i64 (M.field W G b (M.cx W i) (M.cy W i))) ∧ Below w1.heap.size w1 w') := Lib.hid (fun w1 h1 h2 => rField_ok W H GA PA gc pc G P b B d _ _ w1 h1 h2 hBk)
  clear hA hBk
  have hX := HX.out
  cases cv'
  · have HF : Hid (false = r) := Lib.hid (by have := HR.out; simpa using this)
    go_wp2_with fail
    clear hX
    refine wp_region_kept X.heap.size X (by kernel_rfl) (by kernel_rfl) (Below.refl _ _) ?_
    repeat (go_big_quiet_step ((first | (go_at_call 132; exact Kept.calls (Nat.le_refl _) (kC.out _ hg1.kept hS1.kept)))))
    refine wpQuiet_nil ?_
    rintro w5 ⟨⟨_, hb5⟩, rfl⟩
    go_wp2_with fail
    go_ret
    exact ⟨ret_bool HF.out, after_ BX hb5⟩
  · have HF : Hid (decide (M.field W G a (M.cx W i) (M.cy W i) - M.field W G b (M.cx W i) (M.cy W i) < M.ratio o) = r) := Lib.hid (by have := HR.out; simpa using this)
    have hro : -46 ≤ M.ratio o ∧ M.ratio o ≤ 30 := by unfold M.ratio; split <;> omega
    go_wp2_with fail
    clear hX
    refine wp_region_kept X.heap.size X (by kernel_rfl) (by kernel_rfl) (Below.refl _ _) ?_
    repeat (go_big_quiet_step ((first | (go_at_call 132; exact Kept.calls (Nat.le_refl _) (kC.out _ hg1.kept hS1.kept)) | (go_at_call 171; with_reducible exact Kept.calls (Nat.le_refl _) (kF1.out _ hg1.kept hS1.kept)) | (go_at_call 171; with_reducible exact Kept.calls (Nat.le_refl _) (kF2.out _ hg1.kept hT1.kept)) | (go_at_call 172; exact Kept.same (rRatio_ok o _)))))
    refine wpQuiet_nil ?_
    rintro w5 ⟨⟨_, hb5⟩, rfl⟩
    go_wp2_with fail
    go_ret
    exact ⟨ret_bool HF.out, after_ BX hb5⟩
set_option maxHeartbeats 8000000 in
theorem rCells15_ok (W H : Int) (GA PA : Option Addr) (gc pc : Nat) (G P : List Int) (a b : St) (A B : Option Addr) (c d : Nat) (o : Int) (w : World) (hg : Sl 1 icell w w.heap.size GA G) (hS : Sl 1 icell w w.heap.size A a.pat) (hT : Sl 1 icell w w.heap.size B b.pat) (hoa : M.okS W H G P a = true) (hob : M.okS W H G P b = true) :
    Calls Tryz.prog 104 #[tv W H GA PA G.length gc P.length pc, stv a A c, stv b B d, .int .i64 o] w (RetS 1 icell w (M.lost W H G a (M.ratio o) [b])) := by
  obtain ⟨V, HW, x0, x1, x2, hB, -⟩ := boxes3 w #[.int .i64 W, .int .i64 H, .slice GA G.length gc, .slice PA P.length pc] 24 (stc a A c) 40 (stc b B d) 40
  obtain ⟨i0, hi, hz0, hz1, hz2⟩ := info_parts intInfo
  have Hi := Lib.hid hi; have Hz0 := Lib.hid hz0; have Hz1 := Lib.hid hz1; have Hz2 := Lib.hid hz2
  clear hi hz0 hz1 hz2
  obtain ⟨-, htv, -, -⟩ := M.okS_iff.1 hoa
  obtain ⟨r1, r2, -⟩ := M.tvalid_iff.1 htv
  obtain ⟨wh1, wh2⟩ := M.wh_le r1 r2
  obtain ⟨n, hn⟩ : ∃ n : Nat, W * H = n := ⟨(W * H).toNat, by omega⟩
  have HOA := Lib.hid hoa
  have HOB := Lib.hid hob
  clear hoa hob htv
  rw [M.lostTo_eq, show (W * H).toNat = n by omega]
  go_enter Tryz.func104, Tryz.ntmps104
  go_wp2_with fail
  rw [HW.out]
  go_loopw [9, 10] (fun out i wr => ∃ k : Nat, k ≤ n ∧ i = .int .i64 k ∧ Below w.heap.size w wr ∧ Below V.heap.size V wr ∧ wr.ownsRow V.heap.size 3 1 out (M.lostTo W G a b (M.ratio o) k).length (flat 1 icell (M.lostTo W G a b (M.ratio o) k))) (fun _ i _ => n - (intOf i).toNat)
  case atStart => exact ⟨0, Nat.zero_le _, rfl, hB, Below.refl _ _, own_nil _ _ _ _ _⟩
  case round =>
    obtain ⟨k, hk, rfl, hBw, hBr, hown⟩ := hrel
    have y0 := x0.below hBr
    have y1 := x1.below hBr
    have y2 := x2.below hBr
    obtain ⟨c0, c1, c2, c3⟩ := y0.c4
    have hmul : W * H = (n : Int) := hn
    by_cases hlt : k < n
    · obtain ⟨b0, b1, b2, b3, b4, b5, b6, b7⟩ := y1.c8
      obtain ⟨e0, e1, e2, e3, e4, e5, e6, e7⟩ := y2.c8
      have hal := M.lostTo_len W G a b (M.ratio o) k
      have HSC := Lib.hid (M.lostTo_succ W G a b (M.ratio o) k)
      go_wp2_with fail
      clear c0 c1 c2 c3 b0 b1 b2 b3 b4 b5 b6 b7 e0 e1 e2 e3 e4 e5 e6 e7
      refine (rHit_ok W H GA PA gc pc G P a b A B c d o k wr ((hg.below hBw).more hBw.size) ((hS.below hBw).more hBw.size) ((hT.below hBw).more hBw.size) HOA.out HOB.out (by omega)).mono ?_
      rintro e w5 ⟨rfl, hb5⟩
      have hown5 := own_below hown hb5
      have B5 := after_ hBr hb5
      have Bw5 := after_ hBw hb5
      cases hh : M.hit W G a b (M.ratio o) k with
      | false =>
        have HS2 := Lib.hid (HSC.out.trans (by rw [hh]; simp : _ = M.lostTo W G a b (M.ratio o) k))
        go_wp2_with fail
        go_roundw
        case rel => exact ⟨k + 1, hlt, by go_num, Bw5, B5, by rw [HS2.out]; exact hown5⟩
        case measure => simp [intOf]; omega
      | true =>
        have HS2 := Lib.hid (HSC.out.trans (by rw [hh]; simp : _ = M.lostTo W G a b (M.ratio o) k ++ [(k : Int)]))
        go_wp2_with (at_builtin; refine wpList_push (w0 := V) (cell := icell) (y := (k : Int)) rfl _ _ _ rfl V.heap.size V.heap.size 3 i0 _ 8 Tryz.underlying22 Hi.out Hz0.out Hz1.out Hz2.out rfl (by decide) _ _ _ rfl hown5 _ _ rfl _ rfl (fun _ => rfl) (by unfold maxLen; omega) (by omega) B5.size (Nat.le_refl _) B5 ?_; intro v' w' hown' hb' _)
        go_roundw
        case rel => exact ⟨k + 1, hlt, by go_num, hB.trans (hb'.mono hB.size), hb', by rw [HS2.out, List.length_append]; exact hown'⟩
        case measure => simp [intOf]; omega
    · obtain rfl : k = n := by omega
      obtain ⟨A9, c9, rfl, hS9⟩ := own_slice (by decide) hown
      go_wp2_with fail
      go_ret
      exact ⟨A9, c9, rfl, hS9, hBw⟩
set_option maxHeartbeats 4000000 in
theorem rPeople15_ok (W H : Int) (GA PA : Option Addr) (gc pc gl : Nat) (P : List Int) (A : Option Addr) (c : Nat) (l : List Int) (w : World) (hp : Sl 1 icell w w.heap.size PA P) (hl : Sl 1 icell w w.heap.size A l) (hW : 1 ≤ W ∧ W ≤ 64) (hH : 1 ≤ H ∧ H ≤ 64) (hPl : (P.length : Int) = W * H) (hPv : ∀ g ∈ P, 0 ≤ g ∧ g ≤ 1000000) (hlen : l.length ≤ 100000) (hin : ∀ x ∈ l, 0 ≤ x ∧ x < W * H) :
    Calls Tryz.prog 103 #[tv W H GA PA gl gc P.length pc, .slice A l.length c] w fun e w' => e = .returned (.int .i64 (M.total P l)) ∧ Below w.heap.size w w' := by
  obtain ⟨V, HW, x0, hB, -⟩ := boxes1 w #[.int .i64 W, .int .i64 H, .slice GA gl gc, .slice PA P.length pc] 24
  have k := rTot_ok W H GA PA gc pc gl P A c l V ((hp.below hB).more hB.size) ((hl.below hB).more hB.size) hW hH hPl hPv hlen hin
  generalize M.total P l = r at *
  go_enter Tryz.func103, Tryz.ntmps103
  go_wp2_with fail
  rw [HW.out]
  refine k.mono ?_
  rintro e w1 ⟨rfl, hb1⟩
  go_wp2_with fail
  go_ret
  exact ⟨rfl, after_ hB hb1⟩
theorem rExceeds_ok (l p s : Int) (w : World) (h1 : 0 ≤ 1000 * l ∧ 1000 * l ≤ 4611686018427387904) (h2 : 0 ≤ s * p ∧ s * p ≤ 4611686018427387904) :
    Calls Tryz.prog 68 #[.int .i64 l, .int .i64 p, .int .i64 s] w fun e w' => e = .returned (.bool (decide (s * p < 1000 * l))) ∧ w = w' := by
  go_enter Tryz.func68, Tryz.ntmps68
  go_wp2_with fail
  go_ret
  exact ⟨rfl, rfl⟩
end Go.Proofs.YtciolgmljpamlaaGreatDoor
end

section
namespace Go.Proofs.YtciolgmljpamlaaGreatDoor
namespace M
def pv (P : List Int) (x : Int) : Int := P.getD x.toNat 0
end M
end Go.Proofs.YtciolgmljpamlaaGreatDoor
end

section
namespace Go.Proofs.YtciolgmljpamlaaGreatDoor
namespace M
def sumB (P : List Int) (n : Nat) (p : Nat → Bool) : Int := ((List.range n).map fun i => if p i then P.getD i 0 else 0).sum
theorem sumB_zero (P : List Int) (p : Nat → Bool) : sumB P 0 p = 0 := rfl
theorem sumB_succ (P : List Int) (n : Nat) (p : Nat → Bool) : sumB P (n + 1) p = sumB P n p + if p n then P.getD n 0 else 0 := by
  unfold sumB
  rw [List.range_succ, List.map_append, List.sum_append]
  simp
theorem sumB_congr {P : List Int} {p q : Nat → Bool} : ∀ {n : Nat}, (∀ i, i < n → p i = q i) → sumB P n p = sumB P n q
  | 0, _ => rfl
  | n + 1, h => by rw [sumB_succ, sumB_succ, sumB_congr (fun i hi => h i (by omega)), h n (by omega)]
theorem getD_nonneg {P : List Int} (hP : ∀ g ∈ P, 0 ≤ g ∧ g ≤ 1000000) (i : Nat) : 0 ≤ P.getD i 0 := by
  by_cases hj : i < P.length
  · have := hP P[i] (List.getElem_mem hj)
    simp [hj]; omega
  · simp [Nat.le_of_not_lt hj]
theorem sumB_mono {P : List Int} (hP : ∀ g ∈ P, 0 ≤ g ∧ g ≤ 1000000) {p q : Nat → Bool} : ∀ {n : Nat}, (∀ i, i < n → p i = true → q i = true) → sumB P n p ≤ sumB P n q
  | 0, _ => by simp [sumB_zero]
  | n + 1, h => by
    have ih := sumB_mono hP (n := n) (fun i hi => h i (by omega))
    have g := getD_nonneg hP n
    rw [sumB_succ, sumB_succ]
    by_cases hp : p n = true
    · rw [if_pos hp, if_pos (h n (by omega) hp)]; omega
    · rw [if_neg hp]
      split <;> omega
theorem sumB_add1 {P : List Int} {p : Nat → Bool} {x : Nat} (hx : p x = false) : ∀ {n : Nat}, sumB P n (fun i => p i || decide (i = x)) = sumB P n p + if x < n then P.getD x 0 else 0
  | 0 => by simp [sumB_zero]
  | n + 1 => by
    rw [sumB_succ, sumB_succ, sumB_add1 hx]
    by_cases e : n = x
    · subst e
      simp [hx]
    · by_cases h : x < n
      · simp [e, h, show x < n + 1 by omega]; omega
      · simp [e, h, show ¬ x < n + 1 by omega]
theorem totTo_sumB {P l : List Int} {n : Nat} (hin : ∀ x ∈ l, 0 ≤ x ∧ x < (n : Int)) : ∀ k, k ≤ l.length → totTo P l k = sumB P n (fun i => decide ((i : Int) ∈ l.take k))
  | 0, _ => by
    rw [sumB_congr (q := fun _ => false) (fun i _ => by simp)]
    show (0 : Int) = _
    clear hin
    induction n with
    | zero => rfl
    | succ n ih => rw [sumB_succ, ← ih]; rfl
  | k + 1, hk => by
    have hkl : k < l.length := by omega
    have hx := hin l[k] (List.getElem_mem hkl)
    obtain ⟨x, hxe⟩ : ∃ x : Nat, l[k] = (x : Int) := ⟨l[k].toNat, by omega⟩
    rw [totTo_succ hkl, totTo_sumB hin k (by omega), List.take_succ_eq_append_getElem hkl, hxe, Int.toNat_natCast]
    rw [hxe] at hx
    by_cases hm : (x : Int) ∈ l.take k
    · rw [if_pos hm, Int.add_zero]
      refine sumB_congr fun i _ => ?_
      by_cases e : i = x
      · subst e; simp [hm]
      · have : ¬ (i : Int) = (x : Int) := by omega
        simp [this]
    · rw [if_neg hm]
      have := sumB_add1 (P := P) (p := fun i => decide ((i : Int) ∈ l.take k)) (x := x) (by simpa using hm) (n := n)
      rw [if_pos (by omega)] at this
      rw [← this]
      refine sumB_congr fun i _ => ?_
      simp only [List.mem_append, List.mem_singleton, Bool.decide_or]
      congr 1
      by_cases e : i = x
      · subst e; simp
      · have : ¬ (i : Int) = (x : Int) := by omega
        simp [e, this]
theorem total_sumB {P l : List Int} {n : Nat} (hin : ∀ x ∈ l, 0 ≤ x ∧ x < (n : Int)) : total P l = sumB P n (fun i => decide ((i : Int) ∈ l)) := by
  unfold total
  rw [totTo_sumB hin _ (Nat.le_refl _), List.take_length]
theorem total_same {P l l' : List Int} {n : Nat} (hin : ∀ x ∈ l, 0 ≤ x ∧ x < (n : Int)) (h : ∀ x, x ∈ l ↔ x ∈ l') : total P l = total P l' := by
  rw [total_sumB hin, total_sumB (fun x hx => hin x ((h x).2 hx))]
  exact sumB_congr fun i _ => by simp [h]
theorem total_sub {P l l' : List Int} {n : Nat} (hP : ∀ g ∈ P, 0 ≤ g ∧ g ≤ 1000000) (hin : ∀ x ∈ l', 0 ≤ x ∧ x < (n : Int)) (h : ∀ x, x ∈ l → x ∈ l') : total P l ≤ total P l' := by
  rw [total_sumB hin, total_sumB (fun x hx => hin x (h x hx))]
  exact sumB_mono hP fun i _ hi => by simpa using h _ (by simpa using hi)
theorem lost_mem {W H : Int} {G : List Int} {a : St} {r : Int} {l : List St} {x : Int} : x ∈ lost W H G a r l ↔ ∃ i : Nat, x = i ∧ i < (W * H).toNat ∧ cov W G a (cx W i) (cy W i) = true ∧ ∃ b ∈ l, field W G a (cx W i) (cy W i) - field W G b (cx W i) (cy W i) < r := by
  unfold lost dist
  constructor
  · intro h
    obtain ⟨i, hi, rfl⟩ := List.mem_map.1 h
    obtain ⟨h1, h2⟩ := List.mem_filter.1 hi
    rw [Bool.and_eq_true, List.any_eq_true] at h2
    obtain ⟨b, hb, hd⟩ := h2.2
    exact ⟨i, rfl, List.mem_range.1 h1, h2.1, b, hb, by simpa using hd⟩
  · rintro ⟨i, rfl, h1, h2, b, hb, hd⟩
    refine List.mem_map.2 ⟨i, List.mem_filter.2 ⟨List.mem_range.2 h1, ?_⟩, rfl⟩
    rw [Bool.and_eq_true, List.any_eq_true]
    exact ⟨h2, b, hb, by simpa using hd⟩
theorem lost_inN {W H : Int} {G : List Int} {a : St} {r : Int} {l : List St} : ∀ x ∈ lost W H G a r l, 0 ≤ x ∧ x < ((W * H).toNat : Int) := fun x hx => by have := lost_in x hx; omega
theorem totl_bd {P l : List Int} (hP : ∀ g ∈ P, 0 ≤ g ∧ g ≤ 1000000) (hl : l.length ≤ 100000) : 0 ≤ total P l ∧ total P l ≤ 100000000000 := by
  have := totTo_bd (l := l) hP l.length
  unfold total
  omega
end M
end Go.Proofs.YtciolgmljpamlaaGreatDoor
end

section
namespace Go.Proofs.YtciolgmljpamlaaGreatDoor
open Go Go.RowKit
set_option maxRecDepth 100000
end Go.Proofs.YtciolgmljpamlaaGreatDoor
end
