/- The references of layer 15: Small, Allowed, Hit, Cells, People, Exceeds. -/
import Derived.Test.YtohkbblfcjmmnaaGreatDoorInt2
namespace Go.Proofs.YtohkbblfcjmmnaaGreatDoor
open Go Go.RowKit
set_option maxRecDepth 100000

def M.small (W H : Int) (gl pl : Nat) (n : Int) (l : List St) : Bool := (l.all fun s => decide (s.pat.length ≤ 20)) && (decide (W ≤ 64) && decide (H ≤ 64) && decide (-64 ≤ W) && decide (-64 ≤ H) && decide (W * H ≤ n) && decide ((gl : Int) ≤ n) && decide ((pl : Int) ≤ n))

set_option maxHeartbeats 8000000 in
theorem rSmall_any (W H : Int) (GA PA : Option Addr) (gc pc gl pl : Nat) (n : Int) (LA : Option Addr) (lc : Nat) (es : List SE) (w : World) (hL : Sl 8 secell w w.heap.size LA es) (hl : es.length ≤ 50) :
    Calls Tryz.prog 27 #[tv W H GA PA gl gc pl pc, .int .i64 n, .slice LA es.length lc] w fun e w' => e = .returned (.bool (M.small W H gl pl n (es.map (·.s)))) ∧ Below w.heap.size w w' := by
  obtain ⟨V, HW, x0, hB, -⟩ := boxes1 w #[.int .i64 W, .int .i64 H, .slice GA gl gc, .slice PA pl pc] 24
  obtain ⟨r, hr⟩ : ∃ r, M.small W H gl pl n (es.map (·.s)) = r := ⟨_, rfl⟩
  have HNO : Hid (∀ k (hk : k < es.length), 20 < es[k].s.pat.length → false = r) := Lib.hid (fun k hk h => by
    rw [← hr]; unfold M.small
    have h2 : ((es.map (·.s)).all fun s => decide (s.pat.length ≤ 20)) = false := by
      rw [List.all_eq_false]
      exact ⟨es[k].s, List.mem_map.2 ⟨_, List.getElem_mem hk, rfl⟩, by simp; omega⟩
    rw [h2]; rfl)
  have HYES : Hid ((∀ k (hk : k < es.length), es[k].s.pat.length ≤ 20) → (decide (W ≤ 64) && decide (H ≤ 64) && decide (-64 ≤ W) && decide (-64 ≤ H) && decide (W * H ≤ n) && decide ((gl : Int) ≤ n) && decide ((pl : Int) ≤ n)) = r) := Lib.hid (fun h => by
    rw [← hr]; unfold M.small
    have h2 : ((es.map (·.s)).all fun s => decide (s.pat.length ≤ 20)) = true := by
      rw [List.all_eq_true]
      intro s hs
      obtain ⟨e, he, rfl⟩ := List.mem_map.1 hs
      obtain ⟨j, hj, rfl⟩ := List.getElem_of_mem he
      simpa using h j hj
    rw [h2]; rfl)
  rw [hr]
  clear hr
  go_enter Tryz.func27, Tryz.ntmps27
  go_wp2_with fail
  rw [HW.out]
  go_loop [7] (fun i => ∃ k : Nat, k ≤ es.length ∧ i = .int .i64 k ∧ Hid (∀ j (hj : j < es.length), j < k → es[j].s.pat.length ≤ 20)) (fun i => es.length - (intOf i).toNat)
  case atStart => exact ⟨0, Nat.zero_le _, rfl, Lib.hid (fun j _ h => absurd h (by omega))⟩
  case round =>
    obtain ⟨k, hk, rfl, HN⟩ := hrel
    have q100 : decide ((k : Int) < 100) = true := decide_eq_true (by omega)
    by_cases hlt : k < es.length
    · obtain ⟨la, rfl, hlb, a0, a1, a2, a3, a4, a5, a6, a7⟩ := (hL.below hB).st8 hlt
      have HA := Lib.hid (HNO.out k hlt)
      have HN2 : Hid (es[k].s.pat.length ≤ 20 → ∀ j (hj : j < es.length), j < k + 1 → es[j].s.pat.length ≤ 20) := Lib.hid (fun h j h1 h3 => by
        by_cases e : j = k
        · subst e; exact h
        · exact HN.out j h1 (by omega))
      generalize es[k] = ek at *
      obtain ⟨s, A, c⟩ := ek
      simp only at a5 HA HN2
      clear a0 a1 a2 a3 a4 a6 a7
      generalize s.pat.length = m at *
      by_cases hb : 20 < (m : Int)
      · have q : decide (20 < (m : Int)) = true := decide_eq_true hb
        have q' : decide (20 < m) = true := decide_eq_true (by omega)
        have HF := Lib.hid (HA.out (by omega))
        go_wp2_with fail
        go_ret
        exact ⟨ret_bool HF.out, hB⟩
      · have q : decide (20 < (m : Int)) = false := decide_eq_false hb
        have q' : decide (20 < m) = false := decide_eq_false (by omega)
        have HN3 := Lib.hid (HN2.out (by omega))
        go_wp2_with fail
        go_round
        case rel => exact ⟨k + 1, hlt, by go_num, HN3⟩
        case measure => simp [intOf]; omega
    · have HF := Lib.hid (HYES.out (fun j hj => HN.out j hj (by omega)))
      obtain ⟨c0, c1, c2, c3⟩ := x0.c4
      clear HN
      by_cases e1 : W ≤ 64
      · have p1 : decide (W ≤ 64) = true := decide_eq_true e1
        by_cases e2 : H ≤ 64
        · have p2 : decide (H ≤ 64) = true := decide_eq_true e2
          by_cases e3 : -64 ≤ W
          · have p3 : decide (-64 ≤ W) = true := decide_eq_true e3
            by_cases e4 : -64 ≤ H
            · have p4 : decide (-64 ≤ H) = true := decide_eq_true e4
              have hm : -4096 ≤ W * H ∧ W * H ≤ 4096 := by
                have h1 : (W * H).natAbs = W.natAbs * H.natAbs := Int.natAbs_mul W H
                have h2 : W.natAbs * H.natAbs ≤ 64 * 64 := Nat.mul_le_mul (by omega) (by omega)
                omega
              rw [p1, p2, p3, p4] at HF
              generalize hwh : W * H = wh at *
              by_cases e5 : wh ≤ n
              · have p5 : decide (wh ≤ n) = true := decide_eq_true e5
                rw [p5] at HF
                by_cases e6 : (gl : Int) ≤ n
                · have p6 : decide ((gl : Int) ≤ n) = true := decide_eq_true e6
                  rw [p6] at HF
                  have HG : Hid (decide ((pl : Int) ≤ n) = r) := Lib.hid (by have := HF.out; simpa using this)
                  go_wp2_with fail
                  go_ret
                  exact ⟨ret_bool HG.out, hB⟩
                · have p6 : decide ((gl : Int) ≤ n) = false := decide_eq_false e6
                  rw [p6] at HF
                  have HG : Hid (false = r) := Lib.hid (by have := HF.out; simpa using this)
                  go_wp2_with fail
                  go_ret
                  exact ⟨ret_bool HG.out, hB⟩
              · have p5 : decide (wh ≤ n) = false := decide_eq_false e5
                rw [p5] at HF
                have HG : Hid (false = r) := Lib.hid (by have := HF.out; simpa using this)
                go_wp2_with fail
                go_ret
                exact ⟨ret_bool HG.out, hB⟩
            · have p4 : decide (-64 ≤ H) = false := decide_eq_false e4
              rw [p4] at HF
              have HG : Hid (false = r) := Lib.hid (by have := HF.out; simpa using this)
              go_wp2_with fail
              go_ret
              exact ⟨ret_bool HG.out, hB⟩
          · have p3 : decide (-64 ≤ W) = false := decide_eq_false e3
            rw [p3] at HF
            have HG : Hid (false = r) := Lib.hid (by have := HF.out; simpa using this)
            go_wp2_with fail
            go_ret
            exact ⟨ret_bool HG.out, hB⟩
        · have p2 : decide (H ≤ 64) = false := decide_eq_false e2
          rw [p2] at HF
          have HG : Hid (false = r) := Lib.hid (by have := HF.out; simpa using this)
          go_wp2_with fail
          go_ret
          exact ⟨ret_bool HG.out, hB⟩
      · have p1 : decide (W ≤ 64) = false := decide_eq_false e1
        rw [p1] at HF
        have HG : Hid (false = r) := Lib.hid (by have := HF.out; simpa using this)
        go_wp2_with fail
        go_ret
        exact ⟨ret_bool HG.out, hB⟩

set_option maxHeartbeats 4000000 in
theorem lsmall_any (W H : Int) (GA PA : Option Addr) (gc pc gl pl : Nat) (LA : Option Addr) (lc : Nat) (es : List SE) (w : World) (hL : Sl 8 secell w w.heap.size LA es) (hl : es.length ≤ 50) :
    Calls Tryz.prog 8 #[tv W H GA PA gl gc pl pc, .slice LA es.length lc] w fun e w' => e = .returned (.bool (M.small W H gl pl 49 (es.map (·.s)))) ∧ Below w.heap.size w w' := by
  obtain ⟨V, HW, x0, hB, -⟩ := boxes1 w #[.int .i64 W, .int .i64 H, .slice GA gl gc, .slice PA pl pc] 24
  have k := rSmall_any W H GA PA gc pc gl pl 49 LA lc es V ((hL.below hB).more hB.size) hl
  generalize M.small W H gl pl 49 (es.map (·.s)) = r at *
  go_enter Tryz.func8, Tryz.ntmps8
  go_wp2_with fail
  rw [HW.out]
  refine k.mono ?_
  rintro e w1 ⟨rfl, hb1⟩
  go_wp2_with fail
  go_ret
  exact ⟨rfl, after_ hB hb1⟩

def M.allowed (W H : Int) (G P : List Int) (l : List St) : Bool := M.tvalid W H G P && l.all (M.okS W H G P)
set_option maxHeartbeats 8000000 in
theorem rAllowed15_any (W H : Int) (GA PA : Option Addr) (gc pc : Nat) (G P : List Int) (LA : Option Addr) (lc : Nat) (es : List SE) (w : World) (hg : Sl 1 icell w w.heap.size GA G) (hp : Sl 1 icell w w.heap.size PA P) (hL : Sl 8 secell w w.heap.size LA es) (hP : Pats w es)
    (hgl : G.length ≤ 9223372036854775806) (hl : es.length ≤ 1000) (hpl : ∀ e ∈ es, e.s.pat.length ≤ 1000) :
    Calls Tryz.prog 13 #[tv W H GA PA G.length gc P.length pc, .slice LA es.length lc] w fun e w' => e = .returned (.bool (M.allowed W H G P (es.map (·.s)))) ∧ Below w.heap.size w w' := by
  obtain ⟨V, HW, x0, hB, -⟩ := boxes1 w #[.int .i64 W, .int .i64 H, .slice GA G.length gc, .slice PA P.length pc] 24
  obtain ⟨r, hr⟩ : ∃ r, M.allowed W H G P (es.map (·.s)) = r := ⟨_, rfl⟩
  have HNO : Hid (M.tvalid W H G P = false → false = r) := Lib.hid (fun h => by rw [← hr]; unfold M.allowed; rw [h]; rfl)
  have HNK : Hid (∀ k (hk : k < es.length), M.okS W H G P es[k].s = false → false = r) := Lib.hid (fun k hk h => by
    rw [← hr]; unfold M.allowed
    have h2 : ((es.map (·.s)).all (M.okS W H G P)) = false := by
      rw [List.all_eq_false]
      exact ⟨es[k].s, List.mem_map.2 ⟨_, List.getElem_mem hk, rfl⟩, by rw [h]; decide⟩
    rw [h2, Bool.and_false])
  have HYES : Hid (M.tvalid W H G P = true → (∀ k (hk : k < es.length), M.okS W H G P es[k].s = true) → true = r) := Lib.hid (fun h hk => by
    rw [← hr]; unfold M.allowed
    have h2 : ((es.map (·.s)).all (M.okS W H G P)) = true := by
      rw [List.all_eq_true]
      intro s hs
      obtain ⟨e, he, rfl⟩ := List.mem_map.1 hs
      obtain ⟨j, hj, rfl⟩ := List.getElem_of_mem he
      exact hk j hj
    rw [h, h2]; rfl)
  rw [hr]
  clear hr
  go_enter Tryz.func13, Tryz.ntmps13
  go_wp2_with fail
  rw [HW.out]
  refine (rValid_any W H GA PA gc pc G P V ((hg.below hB).more hB.size) ((hp.below hB).more hB.size) hgl).mono ?_
  rintro e w1 ⟨rfl, hb1⟩
  have B1 := after_ hB hb1
  cases hc : M.tvalid W H G P with
  | false =>
    have HF := Lib.hid (HNO.out hc)
    go_wp2_with fail
    go_ret
    exact ⟨ret_bool HF.out, B1⟩
  | true =>
    have y0 := x0.below hb1
    have HC := Lib.hid hc
    clear hc
    go_wp2_with fail
    go_loopw [5] (fun i wr => ∃ k : Nat, k ≤ es.length ∧ i = .int .i64 k ∧ Below w.heap.size w wr ∧ Below w1.heap.size w1 wr ∧ Hid (∀ j (hj : j < es.length), j < k → M.okS W H G P es[j].s = true)) (fun i _ => es.length - (intOf i).toNat)
    case atStart => exact ⟨0, Nat.zero_le _, rfl, B1, Below.refl _ _, Lib.hid (fun j _ h => absurd h (by omega))⟩
    case round =>
      obtain ⟨k, hk, rfl, hBw, hBr, HN⟩ := hrel
      by_cases hlt : k < es.length
      · obtain ⟨la, rfl, hlb, a0, a1, a2, a3, a4, a5, a6, a7⟩ := ((hL.below hBw).more hBw.size).st8 hlt
        have hS1 := (hP.below hBw).at_ hlt
        have hpk := hpl _ (List.getElem_mem hlt)
        have HK1 := Lib.hid (HNK.out k hlt)
        have HN2 : Hid (M.okS W H G P es[k].s = true → ∀ j (hj : j < es.length), j < k + 1 → M.okS W H G P es[j].s = true) := Lib.hid (fun h j h1 h3 => by
          by_cases e : j = k
          · subst e; exact h
          · exact HN.out j h1 (by omega))
        have z0 := y0.below hBr
        obtain ⟨c0, c1, c2, c3⟩ := z0.c4
        have l0 := z0.lt
        have hg1 := (hg.below hBw).more hBw.size
        have hp1 := (hp.below hBw).more hBw.size
        obtain ⟨p, hp'⟩ : ∃ p, M.svalid es[k].s = p := ⟨_, rfl⟩
        obtain ⟨q, hq'⟩ : ∃ q, M.has W H G P es[k].s.x es[k].s.y = q := ⟨_, rfl⟩
        have HPQ : Hid (M.okS W H G P es[k].s = (p && q)) := Lib.hid (by rw [M.okS_eq, hp', hq'])
        have kV : Hid (∀ w1, Sl 1 icell w1 w1.heap.size es[k].A es[k].s.pat → Calls Tryz.prog 36 #[stv es[k].s es[k].A es[k].c] w1 fun e w' => e = .returned (.bool p) ∧ Below w1.heap.size w1 w') := Lib.hid (fun w1 hh => by rw [← hp']; exact rSValid_any _ _ _ w1 hh (by omega))
        have kH : Hid (∀ w1, Sl 1 icell w1 w1.heap.size GA G → Sl 1 icell w1 w1.heap.size PA P → Calls Tryz.prog 37 #[tv W H GA PA G.length gc P.length pc, cv es[k].s.x es[k].s.y] w1 fun e w' => e = .returned (.bool q) ∧ Below w1.heap.size w1 w') := Lib.hid (fun w1 hh hk => by rw [← hq']; exact rHas_any W H GA PA gc pc G P _ _ w1 hh hk hgl)
        clear hp' hq'
        cases p <;> cases q
        case true.true =>
          have HN3 := Lib.hid (HN2.out (by rw [HPQ.out]; rfl))
          go_wp2_with fail
          refine wp_region_kept wr.heap.size wr (by kernel_rfl) (by kernel_rfl) (Below.refl _ _) ?_
          repeat (go_big_quiet_step ((first | (go_at_call 36; exact Kept.calls (Nat.le_refl _) (kV.out _ hS1.kept)) | (go_at_call 38; exact Kept.calls (Nat.le_refl _) (rCell_any _ _ _ _)) | (go_at_call 37; exact Kept.calls (Nat.le_refl _) (kH.out _ hg1.kept hp1.kept)))))
          refine wpQuiet_nil ?_
          rintro w5 ⟨⟨_, hb5⟩, rfl⟩
          go_wp2_with fail
          go_roundw
          case rel => exact ⟨k + 1, hlt, by go_num, after_ hBw hb5, after_ hBr hb5, HN3⟩
          case measure => simp [intOf]; omega
        all_goals
          have HF := Lib.hid (HK1.out (by rw [HPQ.out]; rfl))
          go_wp2_with fail
          refine wp_region_kept wr.heap.size wr (by kernel_rfl) (by kernel_rfl) (Below.refl _ _) ?_
          repeat (go_big_quiet_step ((first | (go_at_call 36; exact Kept.calls (Nat.le_refl _) (kV.out _ hS1.kept)) | (go_at_call 38; exact Kept.calls (Nat.le_refl _) (rCell_any _ _ _ _)) | (go_at_call 37; exact Kept.calls (Nat.le_refl _) (kH.out _ hg1.kept hp1.kept)))))
          refine wpQuiet_nil ?_
          rintro w5 ⟨⟨_, hb5⟩, rfl⟩
          go_wp2_with fail
          go_ret
          exact ⟨ret_bool HF.out, after_ hBw hb5⟩
      · have HF := Lib.hid (HYES.out HC.out (fun j hj => HN.out j hj (by omega)))
        go_wp2_with fail
        go_ret
        exact ⟨ret_bool HF.out, hBw⟩
end Go.Proofs.YtohkbblfcjmmnaaGreatDoor
