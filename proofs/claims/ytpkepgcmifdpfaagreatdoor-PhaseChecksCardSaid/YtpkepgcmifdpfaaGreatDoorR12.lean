/- A bundle of texts: Bs4, Dg1. -/
import Derived.Test.YtpkepgcmifdpfaaGreatDoorR11
import Derived.Deep.DeepCutAuto
import Derived.Test.YtpkepgcmifdpfaaGreatDoorR03
section
namespace Go.Proofs.YtpkepgcmifdpfaaGreatDoor
open Go Go.RowKit
set_option maxRecDepth 100000
theorem zero8 : bsc 0 = #[.int .u64 0, .int .u64 0, .int .u64 0, .int .u64 0, .int .u64 0, .int .u64 0, .int .u64 0, .int .u64 0] := by simp [bsc, Bs.wd_zero]
set_option maxHeartbeats 8000000 in
theorem bsOf1_ok (LA : Option Addr) (c v : Nat) (w : World) (hL : Sl 1 icell w w.heap.size LA [(v : Int)]) (hv : v < 512) : Calls Tryz.prog 176 #[.slice LA 1 c] w fun e w' => e = .returned (.tuple #[bsv (2 ^ v), .int .i64 0]) ∧ Below w.heap.size w w' := by
  obtain ⟨V, HW, x2, x0, hB, -⟩ := boxes2 w #[.int .u64 0, .int .u64 0, .int .u64 0, .int .u64 0, .int .u64 0, .int .u64 0, .int .u64 0, .int .u64 0] 169 #[.int .u64 0, .int .u64 0, .int .u64 0, .int .u64 0, .int .u64 0, .int .u64 0, .int .u64 0, .int .u64 0] 169
  obtain ⟨u, HU⟩ : ∃ u, Hid (2 ^ v = u) := ⟨_, Lib.hid rfl⟩
  rw [HU.out]
  have hV := HW.out
  go_enter Tryz.func176, Tryz.ntmps176
  go_wp2_with fail
  clear hV
  go_loopw [6, 9] (fun _ i wr => ∃ k : Nat, k ≤ 1 ∧ i = .int .i64 k ∧ Below w.heap.size w wr ∧ Box wr (w.heap.size + 1) (bsc (if k = 0 then 0 else u)) 169 ∧ Box wr w.heap.size #[.int .u64 0, .int .u64 0, .int .u64 0, .int .u64 0, .int .u64 0, .int .u64 0, .int .u64 0, .int .u64 0] 169) (fun _ i _ => 1 - (intOf i).toNat)
  case atStart => exact ⟨0, by omega, rfl, hB, by rw [if_pos rfl, zero8]; exact x0, x2⟩
  case round =>
    obtain ⟨k', hk, rfl, hBr, hb, y2⟩ := hrel
    by_cases hlt : k' = 0
    · subst hlt
      replace hb : Box wr (w.heap.size + 1) (bsc 0) 169 := hb
      obtain ⟨la, hla, hlb, a9, -⟩ := (hL.below hBr).sp (k := 0) (by decide) (by simp)
      replace a9 : wr.cell? (la.add (0 * 1)) = some (.int .i64 (v : Int)) := a9
      rw [show la.add (0 * 1) = la by unfold Addr.add; simp] at a9
      subst hla
      obtain ⟨k, hk'⟩ : ∃ k : Nat, (v : Int) / 64 = (k : Int) := ⟨v / 64, by omega⟩
      obtain ⟨s, hs'⟩ : ∃ s : Nat, (v : Int) % 64 = (s : Int) := ⟨v % 64, by omega⟩
      have hk8 : k < 8 := by omega
      have hs8 : s < 64 := by omega
      have a0 := hb.w8 hk8
      have f0 := hb.frozen k
      have hm : (bsc 0).setIfInBounds k (.int .u64 ((Bs.wd 0 k ||| 2 ^ s : Nat) : Int)) = bsc u := by
        rw [← HU.out, show 2 ^ v = 0 ||| 2 ^ v by simp]
        obtain rfl : k = v / 64 := by omega
        obtain rfl : s = v % 64 := by omega
        exact bsc_set hk8 (fun j _ hj => Bs.wd_add_other hj) Bs.wd_add_same
      go_wp2_with fail
      refine (inRange_yes v wr hv).mono ?_
      rintro e w1 ⟨rfl, rfl⟩
      go_wp2_with fail
      go_region
      rw [or_val hs8]
      go_wp2_with fail
      go_roundw
      case rel => exact ⟨1, by omega, by go_num, (hBr.setCell (p := ⟨w.heap.size + 1, k, none⟩) (Nat.le_succ _) _).drew, by rw [if_neg (by decide), ← hm]; exact hb.set k _, y2.set_other (p := ⟨w.heap.size + 1, k, none⟩) (by dsimp only; omega) _⟩
      case measure => simp [intOf]
    · obtain rfl : k' = 1 := by omega
      replace hb : Box wr (w.heap.size + 1) (bsc u) 169 := hb
      have yb : Box wr (w.heap.size + 1) (bsc u) 169 := hb
      obtain ⟨Y, HY, z, hBY, -, -⟩ := store8 wr (w.heap.size) u _ _ y2 rfl
      have hY := HY.out
      obtain ⟨c0, c1, c2, c3, c4, c5, c6, c7⟩ := yb.w
      have g0 := y2.frozen 0
      have g1 := y2.frozen 1
      have g2 := y2.frozen 2
      have g3 := y2.frozen 3
      have g4 := y2.frozen 4
      have g5 := y2.frozen 5
      have g6 := y2.frozen 6
      have g7 := y2.frozen 7
      obtain ⟨d0, d1, d2, d3, d4, d5, d6, d7⟩ := y2.c8
      obtain ⟨z0, z1, z2, z3, z4, z5, z6, z7⟩ := z.w
      go_wp2_with fail
      refine bodyPost_ret (v := (.tuple #[bsv u, .int .i64 0])) ?_ rfl ⟨rfl, hBY _ _ (by omega) hBr⟩
      simp [results, Tryz.results176, go_sem, z0, z1, z2, z3, z4, z5, z6, z7]
namespace Bs
theorem below_bit (n i : Nat) : (2 ^ n - 1).testBit i = decide (i < n) := Nat.testBit_two_pow_sub_one n i
theorem wd_below_all {n k : Nat} (h : 64 * k + 64 ≤ n) : wd (2 ^ n - 1) k = 18446744073709551615 := by
  symm
  refine wd_of (by decide) (fun j hj => ?_)
  rw [show (18446744073709551615 : Nat) = 2 ^ 64 - 1 by decide, below_bit, below_bit]
  have : 64 * k + j < n := by omega
  simp [hj, this]
theorem wd_below_some {n k : Nat} (h : n < 64 * k + 64) : wd (2 ^ n - 1) k = 2 ^ (n - 64 * k) - 1 := by
  symm
  refine wd_of (Nat.lt_of_le_of_lt (Nat.sub_le _ _) (by rw [p64]; exact Nat.pow_lt_pow_right (by decide) (by omega))) (fun j _ => ?_)
  rw [below_bit, below_bit]
  congr 1
  apply propext
  omega
end Bs
theorem wrap_low {s : Nat} (h : s < 64) : IntKind.u64.wrap (IntKind.u64.wrap ((2 : Int) ^ s) - 1) = ((2 ^ s - 1 : Nat) : Int) := by
  have h1 := Bs.pow_lt h
  have h2 : 0 < 2 ^ s := Nat.pow_pos (by decide)
  rw [wrap_pow h, IntKind.wrap_u64]
  generalize 2 ^ s = x at *
  omega
set_option maxHeartbeats 8000000 in
theorem bsBelow_ok (n : Nat) (w : World) (hn : n ≤ 512) : Calls Tryz.prog 154 #[.int .i64 n] w fun e w' => e = .returned (.tuple #[bsv (2 ^ n - 1), .int .i64 0]) ∧ Below w.heap.size w w' := by
  obtain ⟨V, HW, x2, x0, hB, -⟩ := boxes2 w #[.int .u64 0, .int .u64 0, .int .u64 0, .int .u64 0, .int .u64 0, .int .u64 0, .int .u64 0, .int .u64 0] 169 #[.int .u64 0, .int .u64 0, .int .u64 0, .int .u64 0, .int .u64 0, .int .u64 0, .int .u64 0, .int .u64 0] 169
  have HAL : Hid (∀ k, 64 * k + 64 ≤ n → Bs.wd (2 ^ n - 1) k = 18446744073709551615) := Lib.hid (fun k h => Bs.wd_below_all h)
  have HSO : Hid (∀ k, n < 64 * k + 64 → Bs.wd (2 ^ n - 1) k = 2 ^ (n - 64 * k) - 1) := Lib.hid (fun k h => Bs.wd_below_some h)
  generalize 2 ^ n - 1 = u at *
  have hV := HW.out
  have g1 : decide ((n : Int) < 0) = false := decide_eq_false (by omega)
  have g2 : decide ((512 : Int) < (n : Int)) = false := decide_eq_false (by omega)
  go_enter Tryz.func154, Tryz.ntmps154
  go_wp2_with fail
  clear hV g1 g2
  go_loopw [5, 6, 14] (fun _ _ i wr => ∃ k : Nat, k ≤ 8 ∧ i = .int .i64 k ∧ Below w.heap.size w wr ∧ Box wr (w.heap.size + 1) (bsc (Bs.mix 0 u k)) 169 ∧ Box wr w.heap.size #[.int .u64 0, .int .u64 0, .int .u64 0, .int .u64 0, .int .u64 0, .int .u64 0, .int .u64 0, .int .u64 0] 169) (fun _ _ i _ => 8 - (intOf i).toNat)
  case atStart => exact ⟨0, by omega, rfl, hB, by rw [mix_start, zero8]; exact x0, x2⟩
  case round =>
    obtain ⟨k, hk, rfl, hBr, hb, y2⟩ := hrel
    by_cases hlt : k < 8
    · have q1 : (k : Int) < 8 := by omega
      have q2 : (0 : Int) ≤ (k : Int) := by omega
      have f0 := hb.frozen k
      have a0 := hb.w8 hlt
      by_cases h1 : 64 * k + 64 ≤ n
      · have q3 : decide ((64 : Int) ≤ (n : Int) - 64 * (k : Int)) = true := decide_eq_true (by omega)
        have e1 := HAL.out k h1
        have hst : Box (wr.setCell ⟨w.heap.size + 1, k, none⟩ (.int .u64 18446744073709551615)) (w.heap.size + 1) (bsc (Bs.mix 0 u (k + 1))) 169 := by
          rw [← mix_step hlt, e1]; exact hb.set k _
        clear e1 h1
        go_wp2_with fail
        go_roundw
        case rel => exact ⟨k + 1, hlt, by go_num, hBr.setCell (p := ⟨w.heap.size + 1, k, none⟩) (Nat.le_succ _) _, hst, y2.set_other (p := ⟨w.heap.size + 1, k, none⟩) (by dsimp only; omega) _⟩
        case measure => simp [intOf]; omega
      · have q3 : decide ((64 : Int) ≤ (n : Int) - 64 * (k : Int)) = false := decide_eq_false (by omega)
        have e1 := HSO.out k (by omega)
        by_cases h2 : 64 * k < n
        · have q4 : decide ((0 : Int) < (n : Int) - 64 * (k : Int)) = true := decide_eq_true (by omega)
          have q5 : decide (64 * (k : Int) < (n : Int)) = true := decide_eq_true (by omega)
          obtain ⟨s, hs⟩ : ∃ s : Nat, (n : Int) - 64 * (k : Int) = (s : Int) := ⟨n - 64 * k, by omega⟩
          have hs8 : s < 64 := by omega
          have q6 : decide (0 < s) = true := decide_eq_true (by omega)
          have q7 : decide ((0 : Int) < (s : Int)) = true := decide_eq_true (by omega)
          have q8 : decide ((64 : Int) ≤ (s : Int)) = false := decide_eq_false (by omega)
          have q9 : decide (64 ≤ s) = false := decide_eq_false (by omega)
          rw [show n - 64 * k = s by omega] at e1
          have hv := wrap_low hs8
          have hst : Box (wr.setCell ⟨w.heap.size + 1, k, none⟩ (.int .u64 ((2 ^ s - 1 : Nat) : Int))) (w.heap.size + 1) (bsc (Bs.mix 0 u (k + 1))) 169 := by
            rw [← mix_step hlt, e1]; exact hb.set k _
          clear e1 h1 h2
          go_upto_region 11 with fail
          try rw [hs]
          go_wp2_with fail
          go_roundw
          case rel => exact ⟨k + 1, hlt, by go_num, hBr.setCell (p := ⟨w.heap.size + 1, k, none⟩) (Nat.le_succ _) _, hst, y2.set_other (p := ⟨w.heap.size + 1, k, none⟩) (by dsimp only; omega) _⟩
          case measure => simp [intOf]; omega
        · have q4 : decide ((0 : Int) < (n : Int) - 64 * (k : Int)) = false := decide_eq_false (by omega)
          have q5 : decide (64 * (k : Int) < (n : Int)) = false := decide_eq_false (by omega)
          have hb2 : Box wr (w.heap.size + 1) (bsc (Bs.mix 0 u (k + 1))) 169 := by
            rw [← mix_skip hlt (by rw [e1, show n - 64 * k = 0 by omega, Bs.wd_zero])]; exact hb
          clear e1 h1 h2
          go_wp2_with fail
          go_roundw
          case rel => exact ⟨k + 1, hlt, by go_num, hBr, hb2, y2⟩
          case measure => simp [intOf]; omega
    · obtain rfl : k = 8 := by omega
      have yb : Box wr (w.heap.size + 1) (bsc u) 169 := by rw [← mix_end 0 u]; exact hb
      obtain ⟨Y, HY, z, hBY, -, -⟩ := store8 wr (w.heap.size) u _ _ y2 rfl
      have hY := HY.out
      obtain ⟨c0, c1, c2, c3, c4, c5, c6, c7⟩ := yb.w
      have g0 := y2.frozen 0
      have g1 := y2.frozen 1
      have g2 := y2.frozen 2
      have g3 := y2.frozen 3
      have g4 := y2.frozen 4
      have g5 := y2.frozen 5
      have g6 := y2.frozen 6
      have g7 := y2.frozen 7
      obtain ⟨d0, d1, d2, d3, d4, d5, d6, d7⟩ := y2.c8
      obtain ⟨z0, z1, z2, z3, z4, z5, z6, z7⟩ := z.w
      go_wp2_with fail
      refine bodyPost_ret (v := (.tuple #[bsv u, .int .i64 0])) ?_ rfl ⟨rfl, hBY _ _ (by omega) hBr⟩
      simp [results, Tryz.results154, go_sem, z0, z1, z2, z3, z4, z5, z6, z7]
end Go.Proofs.YtpkepgcmifdpfaaGreatDoor
end

section
namespace Go.Proofs.YtpkepgcmifdpfaaGreatDoor
open Go Go.RowKit
set_option maxRecDepth 100000
def bscell (n : Nat) (j : Nat) : Value := ((bsc n)[j]?).getD (.int .u64 0)
theorem bs_one (n j : Nat) : (bscell n j).oneCell' = true := by
 rcases j with _ | _ | _ | _ | _ | _ | _ | _ | j <;> rfl
theorem Sl.bs8 {w : World} {B : Nat} {LA : Option Addr} {R : List Nat} {k : Nat} (h : Sl 8 bscell w B LA R) (hk : k < R.length) :
  ∃ la, LA = some la ∧ (la.add (k * 8)).block < B ∧ w.cell? (la.add (k * 8)) = some (.int .u64 (Bs.wd R[k] 0 : Nat)) ∧ w.cell? ⟨(la.add (k * 8)).block, (la.add (k * 8)).off + 1, none⟩ = some (.int .u64 (Bs.wd R[k] 1 : Nat)) ∧ w.cell? ⟨(la.add (k * 8)).block, (la.add (k * 8)).off + 2, none⟩ = some (.int .u64 (Bs.wd R[k] 2 : Nat)) ∧ w.cell? ⟨(la.add (k * 8)).block, (la.add (k * 8)).off + 3, none⟩ = some (.int .u64 (Bs.wd R[k] 3 : Nat)) ∧ w.cell? ⟨(la.add (k * 8)).block, (la.add (k * 8)).off + 4, none⟩ = some (.int .u64 (Bs.wd R[k] 4 : Nat)) ∧ w.cell? ⟨(la.add (k * 8)).block, (la.add (k * 8)).off + 5, none⟩ = some (.int .u64 (Bs.wd R[k] 5 : Nat)) ∧ w.cell? ⟨(la.add (k * 8)).block, (la.add (k * 8)).off + 6, none⟩ = some (.int .u64 (Bs.wd R[k] 6 : Nat)) ∧ w.cell? ⟨(la.add (k * 8)).block, (la.add (k * 8)).off + 7, none⟩ = some (.int .u64 (Bs.wd R[k] 7 : Nat)) := by
 obtain ⟨ad, e, hb, h0, hj⟩ := h.sp (by decide) hk
 exact ⟨ad, e, hb, h0, hj 1 (by decide) (by decide), hj 2 (by decide) (by decide), hj 3 (by decide) (by decide), hj 4 (by decide) (by decide), hj 5 (by decide) (by decide), hj 6 (by decide) (by decide), hj 7 (by decide) (by decide)⟩
structure DG (w : World) (bg : Nat) (A : Option Addr) (c : Nat) (R : List Nat) (arcs : Int) : Prop where
 box : Box w bg #[.bool true, .slice A R.length c, .int .i64 arcs] 217
 rows : Sl 8 bscell w w.heap.size A R
theorem DG.next {w w' : World} {bg : Nat} {A : Option Addr} {c : Nat} {R : List Nat} {arcs : Int} (h : DG w bg A c R arcs) (hb : Below w.heap.size w w') : DG w' bg A c R arcs := ⟨h.box.below hb, (h.rows.below hb).more hb.size⟩
abbrev gp (b : Nat) : Value := .pointer (some ⟨b, 0, none⟩)
theorem row_at {R : List Nat} {v : Nat} (hv : v < R.length) : Dg.row R v = R[v] := by unfold Dg.row; rw [List.getD_eq_getElem?_getD, List.getElem?_eq_getElem hv]; rfl
set_option maxHeartbeats 2000000 in
theorem dgValid_ok (bg : Nat) (A : Option Addr) (c : Nat) (R : List Nat) (arcs : Int) (w : World) (h : DG w bg A c R arcs) : Calls Tryz.prog 141 #[gp bg] w fun e w' => e = .returned (.bool true) ∧ w = w' := by
 obtain ⟨c0, c1, c2⟩ := h.box.c3
 go_enter Tryz.func141, Tryz.ntmps141
 go_wp2_with fail
 go_ret
 exact ⟨rfl, rfl⟩
set_option maxHeartbeats 2000000 in
theorem dgHas_ok (bg : Nat) (A : Option Addr) (c : Nat) (R : List Nat) (arcs : Int) (v : Nat) (w : World) (h : DG w bg A c R arcs) : Calls Tryz.prog 142 #[gp bg, .int .i64 v] w fun e w' => e = .returned (.bool (decide (v < R.length))) ∧ w = w' := by
 obtain ⟨c0, c1, c2⟩ := h.box.c3
 have kV := dgValid_ok bg A c R arcs w h
 have q0 : decide ((0 : Int) ≤ (v : Int)) = true := decide_eq_true (by omega)
 obtain ⟨r, hr⟩ : ∃ r, decide (v < R.length) = r := ⟨_, rfl⟩
 have q1 : decide ((v : Int) < (R.length : Int)) = r := by rw [← hr, decide_eq_decide]; omega
 rw [hr]
 go_enter Tryz.func142, Tryz.ntmps142
 go_wp2_with fail
 refine kV.mono ?_
 rintro e w1 ⟨rfl, rfl⟩
 go_wp2_with fail
 go_ret
 exact ⟨rfl, rfl⟩
set_option maxHeartbeats 2000000 in
theorem dgLen_ok (bg : Nat) (A : Option Addr) (c : Nat) (R : List Nat) (arcs : Int) (w : World) (h : DG w bg A c R arcs) : Calls Tryz.prog 170 #[gp bg] w fun e w' => e = .returned (.int .i64 R.length) ∧ w = w' := by
 obtain ⟨c0, c1, c2⟩ := h.box.c3
 have kV := dgValid_ok bg A c R arcs w h
 go_enter Tryz.func170, Tryz.ntmps170
 go_wp2_with fail
 refine kV.mono ?_
 rintro e w1 ⟨rfl, rfl⟩
 go_wp2_with fail
 go_ret
 exact ⟨rfl, rfl⟩
set_option maxHeartbeats 8000000 in
theorem dgNext_ok (bg : Nat) (A : Option Addr) (c : Nat) (R : List Nat) (arcs : Int) (v : Nat) (w : World) (h : DG w bg A c R arcs) (hv : v < R.length) : Calls Tryz.prog 119 #[gp bg, .int .i64 v] w fun e w' => e = .returned (.tuple #[bsv (Dg.row R v), .int .i64 0]) ∧ Below w.heap.size w w' := by
 obtain ⟨V, HW, y2, hB, -⟩ := boxes1 w #[.int .u64 0, .int .u64 0, .int .u64 0, .int .u64 0, .int .u64 0, .int .u64 0, .int .u64 0, .int .u64 0] 169
 have g := h.next hB
 have kV := dgValid_ok bg A c R arcs V g
 have kH := dgHas_ok bg A c R arcs v V g
 rw [decide_eq_true hv] at kH
 rw [row_at hv]
 obtain ⟨la, hla, hlb, a0, a1, a2, a3, a4, a5, a6, a7⟩ := g.rows.bs8 hv
 obtain ⟨r, hr⟩ : ∃ r, R[v] = r := ⟨_, rfl⟩
 rw [hr] at a0 a1 a2 a3 a4 a5 a6 a7 ⊢
 clear hr
 obtain ⟨e0, e1, e2⟩ := g.box.c3
 have x0 : (0 : Int) ≤ (v : Int) := by omega
 have x1 : (v : Int) < (R.length : Int) := by omega
 subst hla
 have hV := HW.out
 go_enter Tryz.func119, Tryz.ntmps119
 go_wp2_with fail
 clear hV
 refine kV.mono ?_
 rintro e w1 ⟨rfl, rfl⟩
 go_wp2_with fail
 refine kH.mono ?_
 rintro e w1 ⟨rfl, rfl⟩
 obtain ⟨Y, HY, z, hBY, -, -⟩ := store8 V w.heap.size r _ _ y2 rfl
 have hY := HY.out
 have g0 := y2.frozen 0
 have g1 := y2.frozen 1
 have g2 := y2.frozen 2
 have g3 := y2.frozen 3
 have g4 := y2.frozen 4
 have g5 := y2.frozen 5
 have g6 := y2.frozen 6
 have g7 := y2.frozen 7
 obtain ⟨d0, d1, d2, d3, d4, d5, d6, d7⟩ := y2.c8
 obtain ⟨z0, z1, z2, z3, z4, z5, z6, z7⟩ := z.w
 go_wp2_with fail
 refine bodyPost_ret (v := .tuple #[bsv r, .int .i64 0]) ?_ rfl ⟨rfl, hBY _ _ (Nat.le_refl _) hB⟩
 simp [results, Tryz.results119, go_sem, z0, z1, z2, z3, z4, z5, z6, z7]
end Go.Proofs.YtpkepgcmifdpfaaGreatDoor
end
