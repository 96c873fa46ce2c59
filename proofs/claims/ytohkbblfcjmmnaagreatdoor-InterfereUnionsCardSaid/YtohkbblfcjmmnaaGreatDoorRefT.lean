/- The references' Both (layer 14) and Total (layer 10). -/
import Derived.Test.YtohkbblfcjmmnaaGreatDoorRef14
namespace Go.Proofs.YtohkbblfcjmmnaaGreatDoor
open Go Go.RowKit
set_option maxRecDepth 100000

def M.both (a b : List Int) : List Int := a.flatMap fun x => b.filter fun y => decide (y = x)

set_option maxHeartbeats 8000000 in
theorem rBoth_ok (A B : Option Addr) (ac bc : Nat) (a b : List Int) (w : World) (hA : Sl 1 icell w w.heap.size A a) (hB' : Sl 1 icell w w.heap.size B b) (ha : a.length ≤ 5000) (hb : b.length ≤ 5000) :
    Calls Tryz.prog 25 #[.slice A a.length ac, .slice B b.length bc] w (RetS 1 icell w (M.both a b)) := by
  obtain ⟨i0, hi, hz0, hz1, hz2⟩ := info_parts intInfo
  have Hi := Lib.hid hi; have Hz0 := Lib.hid hz0; have Hz1 := Lib.hid hz1; have Hz2 := Lib.hid hz2
  clear hi hz0 hz1 hz2
  go_enter Tryz.func25, Tryz.ntmps25
  go_wp2_with fail
  go_loopw [5, 6] (fun out i wr => ∃ (n : Nat) (os : List Int), n ≤ a.length ∧ i = .int .i64 n ∧ Below w.heap.size w wr ∧ os.length ≤ n * 5000 ∧ wr.ownsRow w.heap.size 3 1 out os.length (flat 1 icell os) ∧ Hid (os = M.both (a.take n) b)) (fun _ i _ => a.length - (intOf i).toNat)
  case atStart => exact ⟨0, [], Nat.zero_le _, rfl, Below.refl _ _, by simp, own_nil _ _ _ _ _, Lib.hid rfl⟩
  case round =>
    obtain ⟨n, os, hn, rfl, hB, hol, hown, HO⟩ := hrel
    by_cases hlt : n < a.length
    · have q7 : decide ((n : Int) < (a.length : Int)) = true := decide_eq_true (by omega)
      go_wp2_with fail
      go_loopw [5, 7] (fun out i wr => ∃ (k : Nat) (os : List Int), k ≤ b.length ∧ i = .int .i64 k ∧ Below w.heap.size w wr ∧ os.length ≤ n * 5000 + k ∧ wr.ownsRow w.heap.size 3 1 out os.length (flat 1 icell os) ∧ Hid (os = M.both (a.take n) b ++ (b.take k).filter fun y => decide (y = a[n]))) (fun _ i _ => b.length - (intOf i).toNat)
      case atStart => exact ⟨0, os, Nat.zero_le _, rfl, hB, by omega, hown, Lib.hid (by rw [HO.out]; simp)⟩
      case round =>
        clear hown hB hol HO os
        obtain ⟨k, os, hk, rfl, hB, hol, hown, HO⟩ := hrel
        by_cases hke : k < b.length
        · have A1 := (hA.below hB).more hB.size
          have B1 := (hB'.below hB).more hB.size
          obtain ⟨la, rfl, hlb, a0⟩ := A1.one_at hlt
          obtain ⟨lb, rfl, hlb2, b0⟩ := B1.one_at hke
          simp only [icell] at a0 b0
          have hlbA : (la.add n).block < wr.heap.size := by first | exact hlb | (rw [add_block]; exact hlb)
          have hlbB : (lb.add k).block < wr.heap.size := by first | exact hlb2 | (rw [add_block]; exact hlb2)
          have HT : Hid ((b.take (k + 1)).filter (fun y => decide (y = a[n])) = (b.take k).filter (fun y => decide (y = a[n])) ++ if b[k] = a[n] then [a[n]] else []) := Lib.hid (by
            rw [List.take_succ_eq_append_getElem hke, List.filter_append]
            congr 1
            by_cases h : b[k] = a[n]
            · simp [h]
            · simp [h])
          generalize a[n] = x at *
          generalize b[k] = y at *
          by_cases he : y = x
          · have q : (y == x) = true := by simp [he]
            have HT2 := Lib.hid (HT.out.trans (by rw [if_pos he]))
            clear he
            go_wp2_with fail
            refine wp_region_kept wr.heap.size wr (by kernel_rfl) (by kernel_rfl) (Below.refl _ _) ?_
            repeat (go_big_quiet_step (fail))
            refine wpQuiet_nil ?_
            rintro w5 ⟨⟨_, hb5⟩, rfl⟩
            have hown5 := own_below hown hb5
            have B5 := after_ hB hb5
            have a5 := (hb5.cell hlbA).trans a0
            clear a0 b0
            go_wp2_with (at_builtin; refine wpList_push (w0 := w) (cell := icell) (y := x) rfl _ _ _ rfl w.heap.size w.heap.size 3 i0 _ 8 Tryz.underlying22 Hi.out Hz0.out Hz1.out Hz2.out rfl (by decide) _ _ _ rfl hown5 _ _ rfl _ rfl (fun _ => rfl) (by unfold maxLen; omega) (by omega) B5.size (Nat.le_refl _) B5 ?_; intro v' w' hown' hb' _)
            go_roundw
            case rel => exact ⟨k + 1, os ++ [x], hke, by go_num, hb', by simp; omega, by rw [List.length_append]; exact hown', Lib.hid (by rw [HT2.out, ← List.append_assoc, ← HO.out])⟩
            case measure => simp [intOf]; omega
          · have q : (y == x) = false := by simp [he]
            have HT2 := Lib.hid (HT.out.trans (by rw [if_neg he]))
            clear he
            go_wp2_with fail
            refine wp_region_kept wr.heap.size wr (by kernel_rfl) (by kernel_rfl) (Below.refl _ _) ?_
            repeat (go_big_quiet_step (fail))
            refine wpQuiet_nil ?_
            rintro w5 ⟨⟨_, hb5⟩, rfl⟩
            have hown5 := own_below hown hb5
            go_wp2_with fail
            go_roundw
            case rel => exact ⟨k + 1, os, hke, by go_num, after_ hB hb5, by omega, hown5, Lib.hid (by rw [HT2.out, List.append_nil]; exact HO.out)⟩
            case measure => simp [intOf]; omega
        · have HO2 : Hid (os = M.both (a.take (n + 1)) b) := Lib.hid (by
            have hbk : b.take k = b := List.take_of_length_le (by omega)
            rw [HO.out, hbk, List.take_succ_eq_append_getElem hlt]
            unfold M.both
            rw [List.flatMap_append]
            simp)
          go_wp2_with fail
          go_roundw
          case rel => exact ⟨n + 1, os, hlt, by go_num, hB, by omega, hown, HO2⟩
          case measure => simp [intOf]; omega
    · obtain rfl : n = a.length := by omega
      obtain ⟨A9, c9, rfl, hS9⟩ := own_slice (by decide) hown
      have HO2 : Hid (os = M.both a b) := Lib.hid (by rw [HO.out, List.take_length])
      go_wp2_with fail
      go_ret
      exact ⟨A9, c9, by rw [HO2.out]; rfl, by rw [← HO2.out]; exact hS9, hB⟩

set_option maxHeartbeats 16000000 in
theorem rTot_ok (W H : Int) (GA PA : Option Addr) (gc pc gl : Nat) (P : List Int) (A : Option Addr) (c : Nat) (l : List Int) (w : World) (hp : Sl 1 icell w w.heap.size PA P) (hl : Sl 1 icell w w.heap.size A l) (hW : 1 ≤ W ∧ W ≤ 64) (hH : 1 ≤ H ∧ H ≤ 64) (hPl : (P.length : Int) = W * H) (hPv : ∀ g ∈ P, 0 ≤ g ∧ g ≤ 1000000) (hlen : l.length ≤ 100000) (hin : ∀ x ∈ l, 0 ≤ x ∧ x < W * H) :
    Calls Tryz.prog 26 #[tv W H GA PA gl gc P.length pc, .slice A l.length c] w fun e w' => e = .returned (.tuple #[.int .i64 (M.total P l), .bool true]) ∧ Below w.heap.size w w' := by
  obtain ⟨V, HW, x0, hB, -⟩ := boxes1 w #[.int .i64 W, .int .i64 H, .slice GA gl gc, .slice PA P.length pc] 24
  obtain ⟨wh1, wh2⟩ := M.wh_le hW hH
  obtain ⟨n, hn⟩ : ∃ n : Nat, W * H = n := ⟨(W * H).toNat, by omega⟩
  have HIN : Hid (∀ k (hk : k < l.length), ∃ i : Nat, l[k] = (i : Int) ∧ i < n) := Lib.hid (fun k hk => by
    have := hin l[k] (List.getElem_mem hk)
    exact ⟨l[k].toNat, by omega, by omega⟩)
  have HPL : Hid (P.length = n ∧ ∀ g ∈ P, 0 ≤ g ∧ g ≤ 1000000) := Lib.hid ⟨by omega, hPv⟩
  have hn4 : n ≤ 4096 := by omega
  have hmul : W * H = (n : Int) := hn
  clear hin hPl hPv
  go_enter Tryz.func26, Tryz.ntmps26
  go_wp2_with fail
  rw [HW.out]
  go_loopw [6, 7, 8, 9] (fun t i _ _ wr => ∃ k : Nat, k ≤ l.length ∧ i = .int .i64 k ∧ t = .int .i64 (M.totTo P l k) ∧ Below w.heap.size w wr ∧ Below V.heap.size V wr) (fun _ i _ _ _ => l.length - (intOf i).toNat)
  case atStart => exact ⟨0, Nat.zero_le _, rfl, rfl, hB, Below.refl _ _⟩
  case round =>
    obtain ⟨k, hk, rfl, rfl, hBw, hBr⟩ := hrel
    by_cases hlt : k < l.length
    · have q7 : decide ((k : Int) < (l.length : Int)) = true := decide_eq_true (by omega)
      obtain ⟨i, hie, hin⟩ := HIN.out k hlt
      have y0 := x0.below hBr
      have l0 := y0.lt
      have L1 := (hl.below hBw).more hBw.size
      obtain ⟨la, rfl, hlb, a0⟩ := L1.one_at hlt
      have hlbA : (la.add k).block < wr.heap.size := by first | exact hlb | (rw [add_block]; exact hlb)
      simp only [icell] at a0
      rw [hie] at a0
      obtain ⟨c0, c1, c2, c3⟩ := y0.c4
      have HTS := Lib.hid (M.totTo_succ (P := P) hlt)
      rw [hie] at HTS
      have htb := M.totTo_bd (l := l) HPL.out.2 k
      have HIE := Lib.hid hie
      clear hie
      have q1 : decide ((i : Int) < 0) = false := decide_eq_false (by omega)
      have q2 : decide ((n : Int) ≤ (i : Int)) = false := decide_eq_false (by omega)
      go_wp2_with fail
      refine wp_region_kept wr.heap.size wr (by kernel_rfl) (by kernel_rfl) (Below.refl _ _) ?_
      repeat (go_big_quiet_step (fail))
      refine wpQuiet_nil ?_
      rintro w5 ⟨⟨_, hb5⟩, rfl⟩
      have B5 := after_ hBw hb5
      have BV5 := after_ hBr hb5
      clear c0 c1 c2 c3 a0 q1 q2
      go_wp2_with fail
      go_loopw [8, 9] (fun g j wq => ∃ m : Nat, m ≤ k ∧ j = .int .i64 m ∧ Below w.heap.size w wq ∧ Below V.heap.size V wq ∧ ∃ b, g = .bool b ∧ Hid (b = decide ((i : Int) ∈ l.take m))) (fun _ j _ => k - (intOf j).toNat)
      case atStart => exact ⟨0, Nat.zero_le _, rfl, B5, BV5, false, rfl, Lib.hid (by simp)⟩
      case round =>
        obtain ⟨m, hm, rfl, hBq, hBVq, b, rfl, HB⟩ := hrel
        have L2 := (hl.below hBq).more hBq.size
        obtain ⟨la', e', hlb', a0⟩ := L2.one_at hlt
        obtain rfl := Option.some.inj e'
        clear e'
        have hlbA' : (la.add k).block < wr.heap.size := by first | exact hlb' | (rw [add_block]; exact hlb')
        simp only [icell] at a0
        rw [HIE.out] at a0
        by_cases hmk : m < k
        · have hml : m < l.length := by omega
          obtain ⟨la'', e', hlb'', b0⟩ := L2.one_at hml
          obtain rfl := Option.some.inj e'
          clear e'
          have hlbB' : (la.add m).block < wr.heap.size := by first | exact hlb'' | (rw [add_block]; exact hlb'')
          simp only [icell] at b0
          have HN : Hid (∀ b', b' = (b || decide (l[m] = (i : Int))) → b' = decide ((i : Int) ∈ l.take (m + 1))) := Lib.hid (fun b' h => by
            rw [h, HB.out, List.take_succ_eq_append_getElem hml]
            rw [Bool.eq_iff_iff, Bool.or_eq_true, decide_eq_true_eq, decide_eq_true_eq, decide_eq_true_eq, List.mem_append, List.mem_singleton]
            exact or_congr Iff.rfl eq_comm)
          generalize l[m] = y at *
          cases b
          · by_cases he : y = (i : Int)
            · have q : (y == (i : Int)) = true := by simp [he]
              have HN2 := Lib.hid (HN.out true (by simp [he]))
              clear he
              go_wp2_with fail
              refine wp_region_kept wr.heap.size wr (by kernel_rfl) (by kernel_rfl) (Below.refl _ _) ?_
              repeat (go_big_quiet_step (fail))
              refine wpQuiet_nil ?_
              rintro w6 ⟨⟨_, hb6⟩, rfl⟩
              go_wp2_with fail
              go_roundw
              case rel => exact ⟨m + 1, hmk, by go_num, after_ hBq hb6, after_ hBVq hb6, true, rfl, HN2⟩
              case measure => simp [intOf]; omega
            · have q : (y == (i : Int)) = false := by simp [he]
              have HN2 := Lib.hid (HN.out false (by simp [he]))
              clear he
              go_wp2_with fail
              refine wp_region_kept wr.heap.size wr (by kernel_rfl) (by kernel_rfl) (Below.refl _ _) ?_
              repeat (go_big_quiet_step (fail))
              refine wpQuiet_nil ?_
              rintro w6 ⟨⟨_, hb6⟩, rfl⟩
              go_wp2_with fail
              go_roundw
              case rel => exact ⟨m + 1, hmk, by go_num, after_ hBq hb6, after_ hBVq hb6, false, rfl, HN2⟩
              case measure => simp [intOf]; omega
          · have HN2 := Lib.hid (HN.out true (by simp))
            go_wp2_with fail
            refine wp_region_kept wr.heap.size wr (by kernel_rfl) (by kernel_rfl) (Below.refl _ _) ?_
            repeat (go_big_quiet_step (fail))
            refine wpQuiet_nil ?_
            rintro w6 ⟨⟨_, hb6⟩, rfl⟩
            go_wp2_with fail
            go_roundw
            case rel => exact ⟨m + 1, hmk, by go_num, after_ hBq hb6, after_ hBVq hb6, true, rfl, HN2⟩
            case measure => simp [intOf]; omega
        · obtain rfl : m = k := by omega
          cases b
          · have hmem : ¬ (i : Int) ∈ l.take m := by have := HB.out; rw [eq_comm, decide_eq_false_iff_not] at this; exact this
            have hpi : i < P.length := by have := HPL.out.1; omega
            have HT2 : Hid (M.totTo P l (m + 1) = M.totTo P l m + P[i]) := Lib.hid (by rw [HTS.out, if_neg hmem]; simp [hpi])
            have z0 := x0.below hBVq
            have l0' := z0.lt
            obtain ⟨c0, c1, c2, c3⟩ := z0.c4
            obtain ⟨pa, rfl, hpb, p0⟩ := ((hp.below hBq).more hBq.size).one_at hpi
            have hpbA : (pa.add i).block < wr.heap.size := by first | exact hpb | (rw [add_block]; exact hpb)
            have hpv := HPL.out.2 P[i] (List.getElem_mem hpi)
            simp only [icell] at p0
            generalize P[i] = pv at *
            clear hmem
            go_wp2_with fail
            refine wp_region_kept wr.heap.size wr (by kernel_rfl) (by kernel_rfl) (Below.refl _ _) ?_
            repeat (go_big_quiet_step (fail))
            refine wpQuiet_nil ?_
            rintro w6 ⟨⟨_, hb6⟩, rfl⟩
            go_wp2_with fail
            go_roundw
            case rel => exact ⟨m + 1, hlt, by go_num, by rw [HT2.out], after_ hBq hb6, after_ hBVq hb6⟩
            case measure => simp [intOf]; omega
          · have hmem : (i : Int) ∈ l.take m := by have := HB.out; rw [eq_comm, decide_eq_true_eq] at this; exact this
            have HT2 : Hid (M.totTo P l (m + 1) = M.totTo P l m) := Lib.hid (by rw [HTS.out, if_pos hmem]; omega)
            clear hmem
            go_wp2_with fail
            go_roundw
            case rel => exact ⟨m + 1, hlt, by go_num, by rw [HT2.out], hBq, hBVq⟩
            case measure => simp [intOf]; omega
    · obtain rfl : k = l.length := by omega
      go_wp2_with fail
      go_ret2
      exact ⟨rfl, hBw⟩
end Go.Proofs.YtohkbblfcjmmnaaGreatDoor
