/- A bundle of texts: Bs2, Bs3, BsL. -/
import Derived.Test.YtpkepgcmifdpfaaGreatDoorR09
import Derived.Test.YtpkepgcmifdpfaaGreatDoorR10
import Derived.Shelf.Spec.TrailingZeros
import Derived.Test.YtpkepgcmifdpfaaGreatDoorR03
section
namespace Go.Proofs.YtpkepgcmifdpfaaGreatDoor
open Go Go.RowKit
set_option maxRecDepth 100000
def Tab64 (w : World) : Prop := TabAt 0 Lib.deBruijn64tab w
theorem Tab64.lt {w : World} (h : Tab64 w) : 0 < w.heap.size := by
  have h0 := h 0 (by decide)
  apply Nat.lt_of_not_le
  intro hle
  rw [World.cell?] at h0
  simp [Array.getElem?_eq_none hle] at h0
theorem Tab64.kept {w w' : World} (h : Tab64 w) (hb : Below w.heap.size w w') : Tab64 w' := fun j hj => (hb.cell (p := ⟨_, j, none⟩) h.lt).trans (h j hj)
set_option maxHeartbeats 4000000 in
theorem tz_core (x k idx : Nat) (w : World) (hx0 : ((x : Int) == 0) = false)
    (key : IntKind.u64.wrap (bits BinOp.and IntKind.u64 (x : Int) (IntKind.u64.wrap (-(x : Int))) * 285870213051353865) / 288230376151711744 = (idx : Int))
    (hi : idx < 64) (hk : k < 64) (hcell : w.cell? ⟨0, idx, none⟩ = some (.int .u8 k)) :
    Calls Tryz.prog 146 #[.int .u64 x] w fun e w' => e = .returned (.int .i64 k) ∧ w = w' := by
  go_enter Tryz.func146, Tryz.ntmps146
  go_wp2_with (simp only [key])
  go_ret
  exact ⟨rfl, rfl⟩
theorem tz_ok (x : Nat) (hx0 : x ≠ 0) (hx : x < 18446744073709551616) (w : World) (hT : Tab64 w) : Calls Tryz.prog 146 #[.int .u64 x] w fun e w' => e = .returned (.int .i64 (Lib.ctz 64 x : Nat)) ∧ w = w' := by
  obtain ⟨hlow, hk⟩ := Lib.lowest_bit 64 x hx0 hx
  obtain ⟨hi, htab⟩ := Lib.deBruijn64_at _ hk
  have hcell := hT _ hi
  rw [htab] at hcell
  exact tz_core x _ _ w (by simp; omega) (tz64_key x _ hx hx0 hlow) hi hk hcell
theorem cut_val (n k s : Nat) : IntKind.u64.wrap (((Bs.wd n k : Nat) : Int) / 2 ^ s * 2 ^ s) = ((Bs.wd n k / 2 ^ s * 2 ^ s : Nat) : Int) := by
  have h : Bs.wd n k / 2 ^ s * 2 ^ s < 18446744073709551616 := Nat.lt_of_le_of_lt (Bs.cut_le _ _) (Bs.wd_lt _ _)
  rw [show (((Bs.wd n k : Nat) : Int) / 2 ^ s * 2 ^ s) = ((Bs.wd n k / 2 ^ s * 2 ^ s : Nat) : Int) by rw [Int.natCast_mul, Int.natCast_ediv, Int.natCast_pow]; rfl, IntKind.wrap_u64]
  generalize Bs.wd n k / 2 ^ s * 2 ^ s = x at *
  omega
set_option maxHeartbeats 4000000 in
theorem bsNext_ok (n i : Nat) (hi : i ≤ 512) (w : World) (ht : Tab64 w) : Calls Tryz.prog 125 #[bsv n, .int .i64 i] w fun e w' => e = .returned (.int .i64 (Bs.nxt n i)) ∧ Below w.heap.size w w' := by
  obtain ⟨V, HW, x0, hB, -⟩ := boxes1 w (bsc n) 169
  obtain ⟨r, HR⟩ : ∃ r, Hid (Bs.nxt n i = r) := ⟨_, Lib.hid rfl⟩
  rw [HR.out]
  have hV := HW.out
  have g1 : decide ((i : Int) < 0) = false := decide_eq_false (by omega)
  by_cases hi5 : i < 512
  · have g2 : decide ((512 : Int) ≤ (i : Int)) = false := decide_eq_false (by omega)
    obtain ⟨k, hk⟩ : ∃ k : Nat, (i : Int) / 64 = (k : Int) := ⟨i / 64, by omega⟩
    obtain ⟨s, hs'⟩ : ∃ s : Nat, (i : Int) % 64 = (s : Int) := ⟨i % 64, by omega⟩
    have hk8 : k < 8 := by omega
    have hs8 : s < 64 := by omega
    have a0 := x0.w8 hk8
    go_enter Tryz.func125, Tryz.ntmps125
    go_wp2_with fail
    rw [cut_val]
    obtain ⟨x1, HX1⟩ : ∃ x1, Hid (Bs.wd n k / 2 ^ s * 2 ^ s = x1) := ⟨_, Lib.hid rfl⟩
    have hx1 : x1 < 18446744073709551616 := by rw [← HX1.out]; exact Nat.lt_of_le_of_lt (Bs.cut_le _ _) (Bs.wd_lt _ _)
    have HB1 : Hid (∀ j, j < 64 → x1.testBit j = (n.testBit (64 * k + j) && decide (i ≤ 64 * k + j))) := Lib.hid (fun j hj => by
      rw [← HX1.out, Bs.cut_bit, Bs.wd_bit]
      have : (s ≤ j) ↔ (i ≤ 64 * k + j) := by omega
      simp [hj, this, Bool.and_comm])
    have HL1 : Hid (∀ m, i ≤ m → m < 64 * k → n.testBit m = false) := Lib.hid (fun m h1 h2 => by omega)
    have hik : i < 64 * (k + 1) := by omega
    rw [HX1.out]
    clear HX1 hk hs' a0 hs8 hi
    go_loop [5, 6] (fun at_ x => ∃ a y : Nat, a < 8 ∧ i < 64 * (a + 1) ∧ at_ = .int .i64 a ∧ x = .int .u64 y ∧ y < 18446744073709551616 ∧ Hid (∀ j, j < 64 → y.testBit j = (n.testBit (64 * a + j) && decide (i ≤ 64 * a + j))) ∧ Hid (∀ m, i ≤ m → m < 64 * a → n.testBit m = false)) (fun at_ _ => 8 - (intOf at_).toNat)
    case atStart => exact ⟨k, x1, hk8, hik, rfl, rfl, hx1, HB1, HL1⟩
    case round =>
      obtain ⟨a, y, ha, hia, rfl, rfl, hy, HB, HL⟩ := hrel
      clear HB1 HL1 hx1 hk8 hik
      by_cases hy0 : y = 0
      · subst hy0
        have HL2 : Hid (∀ m, i ≤ m → m < 64 * (a + 1) → n.testBit m = false) := Lib.hid (fun m h1 h2 => by
          by_cases hm : m < 64 * a
          · exact HL.out m h1 hm
          · have := HB.out (m - 64 * a) (by omega)
            rw [Nat.zero_testBit, show 64 * a + (m - 64 * a) = m by omega] at this
            simpa [h1] using this.symm)
        by_cases ha7 : a + 1 = 8
        · have q1 : (((a : Int) + 1) == 8) = true := by simp; omega
          have HF : Hid (r = -1) := Lib.hid (by rw [← HR.out]; exact Bs.nxt_none (fun m h1 h2 => HL2.out m h1 (by omega)))
          clear ha7
          go_wp2_with fail
          go_ret
          exact ⟨ret_int HF.out.symm, hB⟩
        · have q1 : (((a : Int) + 1) == 8) = false := by simp; omega
          have ha1 : a + 1 < 8 := by omega
          have a1 := x0.w8 ha1
          have j1 : (0 : Int) ≤ (a : Int) + 1 := by omega
          have j2 : (a : Int) + 1 < 8 := by omega
          clear ha7
          go_wp2_with fail
          go_round
          case rel => exact ⟨a + 1, Bs.wd n (a + 1), ha1, by omega, by go_num, rfl, Bs.wd_lt _ _, Lib.hid (fun j hj => by
            rw [Bs.wd_bit]
            have h : i ≤ 64 * (a + 1) + j := by omega
            simp [hj, h]), HL2⟩
          case measure => simp [intOf]; omega
      · have q1 : ((y : Int) == 0) = false := by simp; omega
        obtain ⟨t1, t2, t3⟩ := Bs.ctz_bit hy0 hy
        have HF : Hid (r = 64 * (a : Int) + ((Lib.ctz 64 y : Nat) : Int)) := Lib.hid (by
          rw [← HR.out]
          have h1 := HB.out _ t1
          rw [t2] at h1
          have h2 := (Bool.and_eq_true _ _).mp h1.symm
          rw [Bs.nxt_some h2.1 (of_decide_eq_true h2.2) (by omega) (fun m h3 h4 => by
            by_cases hm : m < 64 * a
            · exact HL.out m h3 hm
            · have h5 := HB.out (m - 64 * a) (by omega)
              rw [t3 _ (by omega), show 64 * a + (m - 64 * a) = m by omega] at h5
              simpa [h3] using h5.symm)]
          omega)
        have kk := tz_ok y hy0 hy V (ht.kept hB)
        generalize Lib.ctz 64 y = z at *
        clear t2 t3 hy0 HB HL
        go_wp2_with fail
        refine kk.mono ?_
        rintro e w1 ⟨rfl, rfl⟩
        go_wp2_with fail
        go_ret
        exact ⟨ret_int HF.out.symm, hB⟩
  · have g2 : decide ((512 : Int) ≤ (i : Int)) = true := decide_eq_true (by omega)
    have HF : Hid (r = -1) := Lib.hid (by rw [← HR.out]; exact Bs.nxt_big (by omega))
    clear hi5 hi
    go_enter Tryz.func125, Tryz.ntmps125
    go_wp2_with fail
    go_ret
    exact ⟨ret_int HF.out.symm, hB⟩
set_option maxHeartbeats 1000000 in
theorem bsMin_ok (n : Nat) (w : World) (ht : Tab64 w) : Calls Tryz.prog 124 #[bsv n] w fun e w' => e = .returned (.int .i64 (Bs.nxt n 0)) ∧ Below w.heap.size w w' := by
  obtain ⟨V, HW, x0, hB, -⟩ := boxes1 w (bsc n) 169
  have k := bsNext_ok n 0 (by decide) V (ht.kept hB)
  generalize Bs.nxt n 0 = r at *
  obtain ⟨c0, c1, c2, c3, c4, c5, c6, c7⟩ := x0.w
  have hV := HW.out
  go_enter Tryz.func124, Tryz.ntmps124
  go_wp2_with fail
  refine k.mono ?_
  rintro e w1 ⟨rfl, hb1⟩
  go_wp2_with fail
  go_ret
  exact ⟨rfl, after_ hB hb1⟩
def bsAll (b : Nat) : Value := .func (.func 123) #[] #[.pointer (some ⟨b, 0, none⟩)]
theorem hmfB : ∀ (fn : Fn) (first cap : Array Value) (w : World), (Instr.makeFunc fn first cap).run Tryz.prog w = .ok (.func fn first cap) w := fun _ _ _ _ => rfl
set_option maxHeartbeats 1000000 in
theorem bsAll_ok (n : Nat) (w : World) : Calls Tryz.prog 98 #[bsv n] w fun e w' => e = .returned (bsAll w.heap.size) ∧ Below w.heap.size w w' ∧ w'.heap.size = w.heap.size + 1 ∧ Box w' w.heap.size (bsc n) 169 := by
  obtain ⟨V, HW, x0, hB, hs⟩ := boxes1 w (bsc n) 169
  have HS := Lib.hid hs
  clear hs
  have hmf := hmfB
  go_enter Tryz.func98, Tryz.ntmps98
  go_wp2_with fail
  rw [HW.out]
  go_ret
  exact ⟨rfl, hB, HS.out, x0⟩
set_option maxHeartbeats 8000000 in
theorem bsAll_seq (b n : Nat) :
    SeqP Tryz.prog 123 #[.pointer (some ⟨b, 0, none⟩)] (fun x : Nat => #[.int .i64 x]) (Bs.els n 0) (fun W => Box W b (bsc n) 169 ∧ Tab64 W) := by
  intro l J Jx V hJ hJx hJb hY h0
  refine callsIn_wide.2 ?_
  obtain ⟨hb0, ht0⟩ := hJb _ _ h0
  obtain ⟨c0, c1, c2, c3, c4, c5, c6, c7⟩ := hb0.w
  go_enter Tryz.func123, Tryz.ntmps123
  go_wp2_with fail
  refine (bsMin_ok n V ht0).mono ?_
  rintro e w1 ⟨rfl, hb1⟩
  clear c0 c1 c2 c3 c4 c5 c6 c7
  have hJ1 : J [] w1 := hJ _ _ _ none h0 ⟨hb1.os, hb1.tape, hb1.output, hb1.size, fun k hk _ => hb1.block k hk⟩ (fun r e => by cases e)
  go_wp2_with fail
  go_loopw [3] (fun i wr => ∃ (m : Nat) (pre : List Nat), m ≤ 512 ∧ i = .int .i64 (Bs.nxt n m) ∧ Hid (Bs.els n 0 = pre ++ Bs.els n m) ∧ J pre wr) (fun i _ => if intOf i < 0 then 0 else (513 - intOf i).toNat)
  case atStart => exact ⟨0, [], by omega, rfl, Lib.hid rfl, hJ1⟩
  case round =>
    obtain ⟨m, pre, hm, rfl, HE, hJp⟩ := hrel
    clear hJ1 h0
    rcases Bs.els_nxt (n := n) hm with ⟨e1, e2⟩ | ⟨j, h1, h2, h3, h4, h5⟩
    · have HE2 : Hid (Bs.els n 0 = pre) := Lib.hid (by rw [HE.out, e2, List.append_nil])
      rw [e1]
      clear e1 e2
      go_wp2_with fail
      go_end0
      exact ⟨⟨_, rfl⟩, .inl (by rw [HE2.out]; exact hJp)⟩
    · have HE2 : Hid (Bs.els n 0 = pre ++ j :: Bs.els n (j + 1)) := Lib.hid (by rw [HE.out, h5])
      rw [h3]
      clear h3 h4 h5
      have q0 : (0 : Int) ≤ (j : Int) := by omega
      obtain ⟨fn, tmps, assign, body, hy, hR⟩ := hY pre j (Bs.els n (j + 1)) wr HE2.out hJp
      clear hY
      refine (wpIn_wide (n := 9)).1 ?_
      gi_wp2_with fail
      refine hR.mono ?_
      rintro e W3 (⟨rfl, hJ3⟩ | ⟨rfl, hJ3⟩)
      · obtain ⟨hb3, ht3⟩ := hJb _ _ hJ3
        obtain ⟨c0, c1, c2, c3, c4, c5, c6, c7⟩ := hb3.w
        have kk := bsNext_ok n (j + 1) (by omega) W3 ht3
        have e4 : (((j + 1 : Nat) : Int)) = (j : Int) + 1 := by omega
        rw [e4] at kk
        clear e4
        gi_wp2_with fail
        refine ⟨trivial, (callsIn_wide.2 kk).mono ?_⟩
        rintro e w5 ⟨rfl, hb5⟩
        have hJ5 : J (pre ++ [j]) w5 := hJ _ _ _ none hJ3 ⟨hb5.os, hb5.tape, hb5.output, hb5.size, fun k hk _ => hb5.block k hk⟩ (fun r e => by cases e)
        have hlt := Bs.els_nxt (n := n) (i := j + 1) (by omega)
        have hmz : (if Bs.nxt n (j + 1) < 0 then 0 else (513 - Bs.nxt n (j + 1)).toNat) < (513 - (j : Int)).toNat := by
          rcases hlt with ⟨h, _⟩ | ⟨j', h1', h2', h3', _, _⟩
          · rw [h, if_pos (by decide)]; omega
          · rw [h3', if_neg (by omega)]; omega
        clear hlt c0 c1 c2 c3 c4 c5 c6 c7
        have HMZ := Lib.hid hmz
        clear hmz
        gi_wp2_with fail
        go_roundw
        case rel => exact ⟨j + 1, pre ++ [j], by omega, rfl, Lib.hid (by rw [HE2.out, List.append_assoc]; rfl), hJ5⟩
        case measure =>
          have h := HMZ.out
          have hj0 : ¬ (j : Int) < 0 := by omega
          simp only [intOf, hj0, if_false] at h ⊢
          exact h
      · gi_wp2_with fail
        exact bodyPost_ret (results_none rfl _ _ _) rfl ⟨⟨_, rfl⟩, .inr ⟨_, hJ3⟩⟩
theorem idx8v (v0 v1 v2 v3 v4 v5 v6 v7 : Value) (w : World) :
    (Instr.index 167 (.agg #[v0, v1, v2, v3, v4, v5, v6, v7]) (.int .i64 0)).run Tryz.prog w = .ok v0 w ∧ (Instr.index 167 (.agg #[v0, v1, v2, v3, v4, v5, v6, v7]) (.int .i64 1)).run Tryz.prog w = .ok v1 w ∧
    (Instr.index 167 (.agg #[v0, v1, v2, v3, v4, v5, v6, v7]) (.int .i64 2)).run Tryz.prog w = .ok v2 w ∧ (Instr.index 167 (.agg #[v0, v1, v2, v3, v4, v5, v6, v7]) (.int .i64 3)).run Tryz.prog w = .ok v3 w ∧
    (Instr.index 167 (.agg #[v0, v1, v2, v3, v4, v5, v6, v7]) (.int .i64 4)).run Tryz.prog w = .ok v4 w ∧ (Instr.index 167 (.agg #[v0, v1, v2, v3, v4, v5, v6, v7]) (.int .i64 5)).run Tryz.prog w = .ok v5 w ∧
    (Instr.index 167 (.agg #[v0, v1, v2, v3, v4, v5, v6, v7]) (.int .i64 6)).run Tryz.prog w = .ok v6 w ∧ (Instr.index 167 (.agg #[v0, v1, v2, v3, v4, v5, v6, v7]) (.int .i64 7)).run Tryz.prog w = .ok v7 w :=
  ⟨by kernel_rfl, by kernel_rfl, by kernel_rfl, by kernel_rfl, by kernel_rfl, by kernel_rfl, by kernel_rfl, by kernel_rfl⟩
theorem idx8 {n k : Nat} (hk : k < 8) (w : World) : (Instr.index 167 (bsv n) (.int .i64 (k : Int))).run Tryz.prog w = .ok (.int .u64 (Bs.wd n k : Nat)) w := by
  obtain ⟨h0, h1, h2, h3, h4, h5, h6, h7⟩ := idx8v (.int .u64 (Bs.wd n 0 : Nat)) (.int .u64 (Bs.wd n 1 : Nat)) (.int .u64 (Bs.wd n 2 : Nat)) (.int .u64 (Bs.wd n 3 : Nat)) (.int .u64 (Bs.wd n 4 : Nat)) (.int .u64 (Bs.wd n 5 : Nat)) (.int .u64 (Bs.wd n 6 : Nat)) (.int .u64 (Bs.wd n 7 : Nat)) w
  match k, hk with
  | 0, _ => exact h0
  | 1, _ => exact h1
  | 2, _ => exact h2
  | 3, _ => exact h3
  | 4, _ => exact h4
  | 5, _ => exact h5
  | 6, _ => exact h6
  | 7, _ => exact h7
set_option maxHeartbeats 4000000 in
theorem bsLen_some (n : Nat) (w : World) : Calls Tryz.prog 161 #[bsv n] w fun e w' => ∃ r : Nat, r ≤ 1016 ∧ e = .returned (.int .i64 r) ∧ Below w.heap.size w w' := by
  obtain ⟨V, HW, x0, hB, -⟩ := boxes1 w (bsc n) 169
  obtain ⟨c0, c1, c2, c3, c4, c5, c6, c7⟩ := x0.w
  have hV := HW.out
  go_enter Tryz.func161, Tryz.ntmps161
  go_wp2_with fail
  clear hV c0 c1 c2 c3 c4 c5 c6 c7
  go_loop [3, 5, 8] (fun t _ i => ∃ k c : Nat, k ≤ 8 ∧ c ≤ 127 * k ∧ i = .int .i64 k ∧ t = .int .i64 c) (fun _ _ i => 8 - (intOf i).toNat)
  case atStart => exact ⟨0, 0, by omega, by omega, rfl, rfl⟩
  case round =>
    obtain ⟨k, c, hk, hc, rfl, rfl⟩ := hrel
    by_cases hlt : k < 8
    · have ix := idx8 (n := n) hlt
      have q1 : (k : Int) < 8 := by omega
      go_wp2_with fail
      refine (onesCount_some _ _).mono ?_
      rintro e w1 ⟨r, hr, rfl, rfl⟩
      go_wp2_with fail
      go_round
      case rel => exact ⟨k + 1, c + r, by omega, by omega, by go_num, by go_num⟩
      case measure => simp [intOf]; omega
    · obtain rfl : k = 8 := by omega
      go_wp2_with fail
      go_ret
      exact ⟨c, by omega, rfl, hB⟩
end Go.Proofs.YtpkepgcmifdpfaaGreatDoor
end

section
namespace Go.Proofs.YtpkepgcmifdpfaaGreatDoor
open Go Go.RowKit
set_option maxRecDepth 100000
theorem bits_andNot_nat (a b : Nat) (ha : a < 18446744073709551616) (hb : b < 18446744073709551616) : bits .andNot .u64 (a : Int) (b : Int) = ((Bs.dif a b : Nat) : Int) := by
  have h1 : (BitVec.ofInt 64 (a : Int)).toNat = a := by
    rw [BitVec.ofInt_natCast, BitVec.toNat_ofNat]; exact Nat.mod_eq_of_lt (by omega)
  have h2 : (BitVec.ofInt 64 (b : Int)).toNat = b := by
    rw [BitVec.ofInt_natCast, BitVec.toNat_ofNat]; exact Nat.mod_eq_of_lt (by omega)
  show IntKind.u64.wrap ((BitVec.ofInt 64 (a : Int) &&& ~~~ BitVec.ofInt 64 (b : Int)).toNat : Int) = _
  have e : (BitVec.ofInt 64 (a : Int) &&& ~~~ BitVec.ofInt 64 (b : Int)).toNat = Bs.dif a b := by
    rw [BitVec.toNat_and, BitVec.toNat_not, h1, h2]
    apply Nat.eq_of_testBit_eq
    intro i
    rw [Nat.testBit_and, Bs.dif_bit, show 2 ^ 64 - 1 - b = 2 ^ 64 - (b + 1) by omega, Nat.testBit_two_pow_sub_succ (by omega)]
    by_cases hi : i < 64
    · simp [hi]
    · have : a.testBit i = false := Nat.testBit_lt_two_pow (Nat.lt_of_lt_of_le ha (by rw [Bs.p64]; exact Nat.pow_le_pow_right (by decide) (by omega)))
      simp [this]
  rw [e, IntKind.wrap_u64]
  have := Bs.dif_lt (m := b) ha
  omega
theorem has_val {n k s : Nat} (hs : s < 64) : bits BinOp.and IntKind.u64 (((Bs.wd n k : Nat) : Int) / 2 ^ s) 1 = ((if n.testBit (64 * k + s) = true then 1 else 0 : Nat) : Int) := by
  have e : ((Bs.wd n k : Nat) : Int) / 2 ^ s = ((Bs.wd n k / 2 ^ s : Nat) : Int) := by rw [Int.natCast_ediv, Int.natCast_pow]; rfl
  have h := Bs.has_bit n (64 * k + s)
  rw [show (64 * k + s) / 64 = k by omega, show (64 * k + s) % 64 = s by omega] at h
  rw [e, show (1 : Int) = ((1 : Nat) : Int) from rfl, bits_and_u64_nat _ _ (Nat.lt_of_le_of_lt (Nat.div_le_self _ _) (Bs.wd_lt n k)) (by decide), h]
set_option maxHeartbeats 4000000 in
theorem bsHas_ok (n i : Nat) (w : World) (hi : i < 512) : Calls Tryz.prog 143 #[bsv n, .int .i64 i] w fun e w' => e = .returned (.bool (n.testBit i)) ∧ Below w.heap.size w w' := by
  obtain ⟨V, HW, x0, hB, -⟩ := boxes1 w (bsc n) 169
  obtain ⟨k, hk⟩ : ∃ k : Nat, (i : Int) / 64 = (k : Int) := ⟨i / 64, by omega⟩
  obtain ⟨s, hs'⟩ : ∃ s : Nat, (i : Int) % 64 = (s : Int) := ⟨i % 64, by omega⟩
  have hk8 : k < 8 := by omega
  have hs8 : s < 64 := by omega
  have a0 := x0.w8 hk8
  have hv := has_val (n := n) (k := k) hs8
  rw [show 64 * k + s = i by omega] at hv
  obtain ⟨r, hr⟩ : ∃ r, n.testBit i = r := ⟨_, rfl⟩
  rw [hr] at hv ⊢
  clear hr
  have hV := HW.out
  cases r
  all_goals
    simp only [Bool.false_eq_true, if_true, if_false] at hv
    go_enter Tryz.func143, Tryz.ntmps143
    go_wp2_with fail
    clear hV
    refine (inRange_yes i V hi).mono ?_
    rintro e w1 ⟨rfl, rfl⟩
    go_wp2_with fail
    go_ret
    exact ⟨rfl, hB⟩
namespace Bs
def mix (n u k : Nat) : Nat := ofP (fun i => if i < 64 * k then u.testBit i else n.testBit i) 512
theorem mix_wd {n u k j : Nat} (hj : j < 8) : wd (mix n u k) j = if j < k then wd u j else wd n j := by
  symm
  refine wd_of (by split <;> exact wd_lt _ _) (fun i hi => ?_)
  unfold mix
  rw [ofP_bit, decide_eq_true (by omega), Bool.true_and]
  by_cases h : j < k
  · rw [if_pos h, if_pos (by omega), wd_bit, decide_eq_true hi, Bool.true_and]
  · rw [if_neg h, if_neg (by omega), wd_bit, decide_eq_true hi, Bool.true_and]
end Bs
theorem bsc_ext {a b : Nat} (h : ∀ j, j < 8 → Bs.wd a j = Bs.wd b j) : bsc a = bsc b := by
  unfold bsc
  rw [h 0 (by decide), h 1 (by decide), h 2 (by decide), h 3 (by decide), h 4 (by decide), h 5 (by decide), h 6 (by decide), h 7 (by decide)]
theorem mix_start (n u : Nat) : bsc (Bs.mix n u 0) = bsc n := bsc_ext fun j hj => by rw [Bs.mix_wd hj, if_neg (by omega)]
theorem mix_end (n u : Nat) : bsc (Bs.mix n u 8) = bsc u := bsc_ext fun j hj => by rw [Bs.mix_wd hj, if_pos hj]
theorem mix_step {n u k : Nat} (hk : k < 8) : (bsc (Bs.mix n u k)).setIfInBounds k (.int .u64 ((Bs.wd u k : Nat) : Int)) = bsc (Bs.mix n u (k + 1)) :=
  bsc_set hk (fun j hj hne => by
    rw [Bs.mix_wd hj, Bs.mix_wd hj]
    by_cases h : j < k
    · rw [if_pos h, if_pos (by omega)]
    · rw [if_neg h, if_neg (by omega)]) (by rw [Bs.mix_wd hk, if_pos (by omega)])
theorem mix_skip {n u k : Nat} (hk : k < 8) (h : Bs.wd u k = Bs.wd n k) : bsc (Bs.mix n u k) = bsc (Bs.mix n u (k + 1)) := bsc_ext fun j hj => by
  rw [Bs.mix_wd hj, Bs.mix_wd hj]
  by_cases h1 : j < k
  · rw [if_pos h1, if_pos (by omega)]
  · by_cases h2 : j = k
    · subst h2; rw [if_neg h1, if_pos (by omega), h]
    · rw [if_neg h1, if_neg (by omega)]
set_option maxHeartbeats 8000000 in
theorem bsUnion_ok (n m : Nat) (w : World) : Calls Tryz.prog 120 #[bsv n, bsv m] w fun e w' => e = .returned (bsv (n ||| m)) ∧ Below w.heap.size w w' := by
  obtain ⟨V, HW, x0, x1, x2, hB, -⟩ := boxes3 w (bsc n) 169 (bsc m) 169 #[.int .u64 0, .int .u64 0, .int .u64 0, .int .u64 0, .int .u64 0, .int .u64 0, .int .u64 0, .int .u64 0] 169
  obtain ⟨c0, c1, c2, c3, c4, c5, c6, c7⟩ := x1.w
  obtain ⟨u, HU⟩ : ∃ u, Hid (n ||| m = u) := ⟨_, Lib.hid rfl⟩
  have HUW : Hid (∀ k, (Bs.wd n k ||| Bs.wd m k) = Bs.wd u k) := Lib.hid (fun k => by rw [← HU.out, Bs.wd_or])
  rw [HU.out]
  clear HU
  have hV := HW.out
  go_enter Tryz.func120, Tryz.ntmps120
  go_wp2_with fail
  clear hV c0 c1 c2 c3 c4 c5 c6 c7
  go_loopw [5, 6, 9] (fun _ _ i wr => ∃ k : Nat, k ≤ 8 ∧ i = .int .i64 k ∧ Below w.heap.size w wr ∧ Box wr w.heap.size (bsc (Bs.mix n u k)) 169 ∧ Box wr (w.heap.size + 1 + 1) #[.int .u64 0, .int .u64 0, .int .u64 0, .int .u64 0, .int .u64 0, .int .u64 0, .int .u64 0, .int .u64 0] 169) (fun _ _ i _ => 8 - (intOf i).toNat)
  case atStart => exact ⟨0, by omega, rfl, hB, by rw [mix_start]; exact x0, x2⟩
  case round =>
    obtain ⟨k, hk, rfl, hBr, hb, y2⟩ := hrel
    by_cases hlt : k < 8
    · have ix := idx8 (n := m) hlt
      have q1 : (k : Int) < 8 := by omega
      have q2 : (0 : Int) ≤ (k : Int) := by omega
      have a0 := hb.w8 hlt
      rw [Bs.mix_wd hlt, if_neg (by omega)] at a0
      have f0 := hb.frozen k
      have hv : bits BinOp.or IntKind.u64 ((Bs.wd n k : Nat) : Int) ((Bs.wd m k : Nat) : Int) = ((Bs.wd u k : Nat) : Int) := by rw [bits_or_u64_nat _ _ (Bs.wd_lt _ _) (Bs.wd_lt _ _), HUW.out]
      go_wp2_with fail
      go_roundw
      case rel => exact ⟨k + 1, hlt, by go_num, hBr.setCell (p := ⟨w.heap.size, k, none⟩) (Nat.le_refl _) _, by rw [← mix_step hlt]; exact hb.set k _, y2.set_other (p := ⟨w.heap.size, k, none⟩) (by dsimp only; omega) _⟩
      case measure => simp [intOf]; omega
    · obtain rfl : k = 8 := by omega
      have yb : Box wr w.heap.size (bsc u) 169 := by rw [← mix_end n u]; exact hb
      obtain ⟨Y, HY, z, hBY, -, -⟩ := store8 wr (w.heap.size + 1 + 1) u _ _ y2 rfl
      have hY := HY.out
      obtain ⟨c0, c1, c2, c3, c4, c5, c6, c7⟩ := yb.w
      have g0 := y2.frozen 0
      have g1 := y2.frozen 1
      have g2 := y2.frozen 2
      have g3 := y2.frozen 3
      have g4 := y2.frozen 4
      have g5 := y2.frozen 5
      have g6 := y2.frozen 6
      have g7 := y2.frozen 7
      obtain ⟨d0, d1, d2, d3, d4, d5, d6, d7⟩ := y2.c8
      obtain ⟨z0, z1, z2, z3, z4, z5, z6, z7⟩ := z.w
      go_wp2_with fail
      refine bodyPost_ret (v := bsv u) ?_ rfl ⟨rfl, hBY _ _ (by omega) hBr⟩
      simp [results, Tryz.results120, go_sem, z0, z1, z2, z3, z4, z5, z6, z7]
set_option maxHeartbeats 8000000 in
theorem bsMinus_ok (n m : Nat) (w : World) : Calls Tryz.prog 122 #[bsv n, bsv m] w fun e w' => e = .returned (bsv (Bs.dif n m)) ∧ Below w.heap.size w w' := by
  obtain ⟨V, HW, x0, x1, x2, hB, -⟩ := boxes3 w (bsc n) 169 (bsc m) 169 #[.int .u64 0, .int .u64 0, .int .u64 0, .int .u64 0, .int .u64 0, .int .u64 0, .int .u64 0, .int .u64 0] 169
  obtain ⟨c0, c1, c2, c3, c4, c5, c6, c7⟩ := x1.w
  obtain ⟨u, HU⟩ : ∃ u, Hid (Bs.dif n m = u) := ⟨_, Lib.hid rfl⟩
  have HUW : Hid (∀ k, Bs.dif (Bs.wd n k) (Bs.wd m k) = Bs.wd u k) := Lib.hid (fun k => by rw [← HU.out, Bs.wd_dif])
  rw [HU.out]
  clear HU
  have hV := HW.out
  go_enter Tryz.func122, Tryz.ntmps122
  go_wp2_with fail
  clear hV c0 c1 c2 c3 c4 c5 c6 c7
  go_loopw [5, 6, 9] (fun _ _ i wr => ∃ k : Nat, k ≤ 8 ∧ i = .int .i64 k ∧ Below w.heap.size w wr ∧ Box wr w.heap.size (bsc (Bs.mix n u k)) 169 ∧ Box wr (w.heap.size + 1 + 1) #[.int .u64 0, .int .u64 0, .int .u64 0, .int .u64 0, .int .u64 0, .int .u64 0, .int .u64 0, .int .u64 0] 169) (fun _ _ i _ => 8 - (intOf i).toNat)
  case atStart => exact ⟨0, by omega, rfl, hB, by rw [mix_start]; exact x0, x2⟩
  case round =>
    obtain ⟨k, hk, rfl, hBr, hb, y2⟩ := hrel
    by_cases hlt : k < 8
    · have ix := idx8 (n := m) hlt
      have q1 : (k : Int) < 8 := by omega
      have q2 : (0 : Int) ≤ (k : Int) := by omega
      have a0 := hb.w8 hlt
      rw [Bs.mix_wd hlt, if_neg (by omega)] at a0
      have f0 := hb.frozen k
      have hv : bits BinOp.andNot IntKind.u64 ((Bs.wd n k : Nat) : Int) ((Bs.wd m k : Nat) : Int) = ((Bs.wd u k : Nat) : Int) := by rw [bits_andNot_nat _ _ (Bs.wd_lt _ _) (Bs.wd_lt _ _), HUW.out]
      go_wp2_with fail
      go_roundw
      case rel => exact ⟨k + 1, hlt, by go_num, hBr.setCell (p := ⟨w.heap.size, k, none⟩) (Nat.le_refl _) _, by rw [← mix_step hlt]; exact hb.set k _, y2.set_other (p := ⟨w.heap.size, k, none⟩) (by dsimp only; omega) _⟩
      case measure => simp [intOf]; omega
    · obtain rfl : k = 8 := by omega
      have yb : Box wr w.heap.size (bsc u) 169 := by rw [← mix_end n u]; exact hb
      obtain ⟨Y, HY, z, hBY, -, -⟩ := store8 wr (w.heap.size + 1 + 1) u _ _ y2 rfl
      have hY := HY.out
      obtain ⟨c0, c1, c2, c3, c4, c5, c6, c7⟩ := yb.w
      have g0 := y2.frozen 0
      have g1 := y2.frozen 1
      have g2 := y2.frozen 2
      have g3 := y2.frozen 3
      have g4 := y2.frozen 4
      have g5 := y2.frozen 5
      have g6 := y2.frozen 6
      have g7 := y2.frozen 7
      obtain ⟨d0, d1, d2, d3, d4, d5, d6, d7⟩ := y2.c8
      obtain ⟨z0, z1, z2, z3, z4, z5, z6, z7⟩ := z.w
      go_wp2_with fail
      refine bodyPost_ret (v := bsv u) ?_ rfl ⟨rfl, hBY _ _ (by omega) hBr⟩
      simp [results, Tryz.results122, go_sem, z0, z1, z2, z3, z4, z5, z6, z7]
set_option maxHeartbeats 8000000 in
theorem bsSub_ok (n m : Nat) (hn : Bs.Fit n) (w : World) : Calls Tryz.prog 140 #[bsv n, bsv m] w fun e w' => e = .returned (.bool (Dg.sub n m)) ∧ Below w.heap.size w w' := by
  obtain ⟨V, HW, x0, x1, hB, -⟩ := boxes2 w (bsc n) 169 (bsc m) 169
  obtain ⟨c0, c1, c2, c3, c4, c5, c6, c7⟩ := x0.w
  have HZ : Hid (Dg.sub n m = true ↔ ∀ k, k < 8 → Bs.dif (Bs.wd n k) (Bs.wd m k) = 0) := Lib.hid (by
    unfold Dg.sub
    rw [decide_eq_true_eq, Bs.zero_iff (Bs.fit_dif m hn)]
    simp only [Bs.wd_dif])
  generalize Dg.sub n m = r at *
  have hV := HW.out
  go_enter Tryz.func140, Tryz.ntmps140
  go_wp2_with fail
  clear hV c0 c1 c2 c3 c4 c5 c6 c7
  go_loopw [5, 6, 9] (fun _ _ i wr => ∃ k : Nat, k ≤ 8 ∧ i = .int .i64 k ∧ Below V.heap.size V wr ∧ Hid (∀ j, j < k → Bs.dif (Bs.wd n j) (Bs.wd m j) = 0)) (fun _ _ i _ => 8 - (intOf i).toNat)
  case atStart => exact ⟨0, by omega, rfl, Below.refl _ _, Lib.hid (fun j h => absurd h (by omega))⟩
  case round =>
    obtain ⟨k, hk, rfl, hBr, HA⟩ := hrel
    by_cases hlt : k < 8
    · have ix := idx8 (n := n) hlt
      have q1 : (k : Int) < 8 := by omega
      have q2 : (0 : Int) ≤ (k : Int) := by omega
      have a0 := (x1.below hBr).w8 hlt
      have hv := bits_andNot_nat (Bs.wd n k) (Bs.wd m k) (Bs.wd_lt _ _) (Bs.wd_lt _ _)
      obtain ⟨z, hz⟩ : ∃ z, Bs.dif (Bs.wd n k) (Bs.wd m k) = z := ⟨_, rfl⟩
      rw [hz] at hv
      by_cases hz0 : z = 0
      · subst hz0
        have HA2 : Hid (∀ j, j < k + 1 → Bs.dif (Bs.wd n j) (Bs.wd m j) = 0) := Lib.hid (fun j hj => by
          by_cases e : j = k
          · subst e; exact hz
          · exact HA.out j (by omega))
        have hv0 : bits BinOp.andNot IntKind.u64 ((Bs.wd n k : Nat) : Int) ((Bs.wd m k : Nat) : Int) = 0 := hv
        clear hz hv
        go_wp2_with fail
        go_roundw
        case rel => exact ⟨k + 1, hlt, by go_num, hBr, HA2⟩
        case measure => simp [intOf]; omega
      · have q3 : ((z : Int) != 0) = true := by simp; omega
        have HF : Hid (r = false) := Lib.hid (by
          cases hr : r with
          | false => rfl
          | true => exact absurd (hz.symm.trans (HZ.out.1 hr k hlt)) hz0)
        clear hz
        go_wp2_with fail
        go_ret
        exact ⟨by rw [HF.out]; rfl, after_ hB hBr⟩
    · obtain rfl : k = 8 := by omega
      have HF : Hid (r = true) := Lib.hid (HZ.out.2 HA.out)
      go_wp2_with fail
      go_ret
      exact ⟨by rw [HF.out]; rfl, after_ hB hBr⟩
theorem andn_val {n k s : Nat} (hs : s < 64) : bits BinOp.andNot IntKind.u64 ((Bs.wd n k : Nat) : Int) (IntKind.u64.wrap ((2 : Int) ^ s)) = ((Bs.dif (Bs.wd n k) (2 ^ s) : Nat) : Int) := by
  rw [wrap_pow hs, bits_andNot_nat _ _ (Bs.wd_lt _ _) (Bs.pow_lt hs)]
set_option maxHeartbeats 4000000 in
theorem bsRemove_ok (n i : Nat) (w : World) (hi : i < 512) : Calls Tryz.prog 155 #[bsv n, .int .i64 i] w fun e w' => e = .returned (.tuple #[bsv (Bs.dif n (2 ^ i)), .int .i64 0]) ∧ Below w.heap.size w w' := by
  obtain ⟨V, HW, x0, x1, hB, hs⟩ := boxes2 w (bsc n) 169 #[.int .u64 0, .int .u64 0, .int .u64 0, .int .u64 0, .int .u64 0, .int .u64 0, .int .u64 0, .int .u64 0] 169
  obtain ⟨k, hk⟩ : ∃ k : Nat, (i : Int) / 64 = (k : Int) := ⟨i / 64, by omega⟩
  obtain ⟨s, hs'⟩ : ∃ s : Nat, (i : Int) % 64 = (s : Int) := ⟨i % 64, by omega⟩
  have hk8 : k < 8 := by omega
  have hs8 : s < 64 := by omega
  have a0 := x0.w8 hk8
  have f0 := x0.frozen k
  have hV := HW.out
  obtain ⟨m, HM⟩ : ∃ m, Hid (Bs.dif n (2 ^ i) = m) := ⟨_, Lib.hid rfl⟩
  rw [HM.out]
  go_enter Tryz.func155, Tryz.ntmps155
  go_wp2_with fail
  clear hV
  refine (inRange_yes i V hi).mono ?_
  rintro e w1 ⟨rfl, rfl⟩
  go_wp2_with fail
  go_region
  have hm : (bsc n).setIfInBounds k (.int .u64 ((Bs.dif (Bs.wd n k) (2 ^ s) : Nat) : Int)) = bsc m := by
    rw [← HM.out]
    obtain rfl : k = i / 64 := by omega
    obtain rfl : s = i % 64 := by omega
    exact bsc_set hk8 (fun j _ hj => Bs.wd_rem_other hj) Bs.wd_rem_same
  rw [andn_val hs8]
  obtain ⟨U, HU⟩ : ∃ U, Hid ((V.setCell ⟨w.heap.size, k, none⟩ (.int .u64 ((Bs.dif (Bs.wd n k) (2 ^ s) : Nat) : Int))).drew = U) := ⟨_, Lib.hid rfl⟩
  have y0 : Box U w.heap.size (bsc m) 169 := by
    rw [← HU.out, ← hm]; exact x0.set k _
  have y1 : Box U (w.heap.size + 1) #[.int .u64 0, .int .u64 0, .int .u64 0, .int .u64 0, .int .u64 0, .int .u64 0, .int .u64 0, .int .u64 0] 169 := by
    rw [← HU.out]; exact x1.set_other (p := ⟨w.heap.size, k, none⟩) (by simp) _
  have hBU : Below w.heap.size w U := by
    rw [← HU.out]; exact (hB.setCell (p := ⟨w.heap.size, k, none⟩) (Nat.le_refl _) _).drew
  rw [HU.out]
  clear hm a0 f0 x0 x1
  obtain ⟨Y, HY, z, hBY, -, -⟩ := store8 U (w.heap.size + 1) m _ _ y1 rfl
  have hY := HY.out
  obtain ⟨c0, c1, c2, c3, c4, c5, c6, c7⟩ := y0.w
  have g0 := y1.frozen 0
  have g1 := y1.frozen 1
  have g2 := y1.frozen 2
  have g3 := y1.frozen 3
  have g4 := y1.frozen 4
  have g5 := y1.frozen 5
  have g6 := y1.frozen 6
  have g7 := y1.frozen 7
  obtain ⟨d0, d1, d2, d3, d4, d5, d6, d7⟩ := y1.c8
  obtain ⟨z0, z1, z2, z3, z4, z5, z6, z7⟩ := z.w
  go_wp2_with fail
  refine bodyPost_ret (v := .tuple #[bsv m, .int .i64 0]) ?_ rfl ⟨rfl, hBY _ _ (by omega) hBU⟩
  simp [results, Tryz.results155, go_sem, z0, z1, z2, z3, z4, z5, z6, z7]
end Go.Proofs.YtpkepgcmifdpfaaGreatDoor
end

section
namespace Go.Proofs.YtpkepgcmifdpfaaGreatDoor
open Go Go.RowKit
set_option maxRecDepth 100000
def bsl (l : List Nat) : List Int := l.map fun (x : Nat) => (x : Int)
theorem bsl_snoc (l : List Nat) (x : Nat) : bsl (l ++ [x]) = bsl l ++ [(x : Int)] := by simp [bsl]
theorem bsl_len (l : List Nat) : (bsl l).length = l.length := by simp [bsl]
theorem intInfoB : (Tryz.prog.info? 3).map (fun i => (i.zero, i.size, i.bytes)) = some (some (.int .i64 0), 1, 8) := by kernel_rfl
set_option maxHeartbeats 8000000 in
theorem bsList_own (n : Nat) (w : World) (ht : Tab64 w) : Calls Tryz.prog 156 #[bsv n] w fun e w' => ∃ A c, e = .returned (.slice A (bsl (Bs.els n 0)).length c) ∧ w'.ownsRow w.heap.size 3 1 (.slice A (bsl (Bs.els n 0)).length c) (bsl (Bs.els n 0)).length (flat 1 icell (bsl (Bs.els n 0))) ∧ Below w.heap.size w w' := by
 obtain ⟨V, HW, x0, hB, -⟩ := boxes1 w (bsc n) 169
 obtain ⟨i0, hi, hz0, hz1, hz2⟩ := info_parts intInfoB
 have Hi := Lib.hid hi; have Hz0 := Lib.hid hz0; have Hz1 := Lib.hid hz1; have Hz2 := Lib.hid hz2
 clear hi hz0 hz1 hz2
 obtain ⟨c0, c1, c2, c3, c4, c5, c6, c7⟩ := x0.w
 have hV := HW.out
 refine calls_marks Tryz.func156 rfl ?_
 simp only [Tryz.ntmps156, List.size_toArray, List.length_cons, List.length_nil, Nat.reduceAdd, Nat.reduceSub, Array.replicate_succ, Array.replicate_zero, List.push_toArray, List.append_toArray, List.nil_append, List.cons_append]
 go_wp2_with fail
 clear hV c0 c1 c2 c3 c4 c5 c6 c7
 refine (bsLen_some n V).mono ?_
 rintro e w1 ⟨r, hr, rfl, hb1⟩
 have B1 := after_ hB hb1
 have y0 := x0.below hb1
 go_wp2_with (at_make; refine wpList_make_own _ rfl _ _ 29 rfl w.heap.size 3 i0 _ 1 Tryz.underlying29 Hi.out Hz0.out Hz1.out .i64 .i64 _ r rfl rfl rfl (by rw [Hz2.out]; omega) (by unfold maxLen; omega) B1.size ?_; intro w2 hown2 hg2; have hB2 : Below w1.heap.size w1 w2 := (Below.refl _ _).grown hg2 (Nat.le_refl _) (by simp); have B2 := after_ B1 hB2; obtain ⟨X, HX, u0, hbX, -⟩ := boxes1 w2 #[.slice (some ⟨w1.heap.size, 0, none⟩) 0 r] 29; have yX := (y0.below hB2).below hbX; obtain ⟨c0, c1, c2, c3, c4, c5, c6, c7⟩ := yX.w; have hX := HX.out)
 clear hX c0 c1 c2 c3 c4 c5 c6 c7
 have BX := after_ B2 hbX
 have hownX := own_below hown2 hbX
 refine (bsAll_ok n X).mono ?_
 rintro e w4 ⟨rfl, hb4, hs4, xb⟩
 have B4 := after_ BX hb4
 have u4 := u0.below hb4
 have hown4 := own_below hownX hb4
 have tb4 := ht.kept B4
 go_wp2_with fail
 refine wp_range (gf := 123) (lb := #[.pointer (some ⟨X.heap.size, 0, none⟩)]) rfl (enters_of Tryz.func123 (by kernel_rfl) rfl) (bsAll_seq X.heap.size n) (fun _ => rfl)
  (fun pre W => ∃ v, Box W w2.heap.size #[v] 29 ∧ W.ownsRow w.heap.size 3 1 v pre.length (flat 1 icell (bsl pre)) ∧ Below w.heap.size w W ∧ Box W X.heap.size (bsc n) 169) (fun _ _ _ => False)
  ?hI (fun _ _ _ _ _ h => h.elim) ?hK ⟨_, u4, hown4, B4, xb⟩ ?round ?done (fun _ _ _ h => h.elim)
 case hI => exact fun pre W W' row ⟨v, h1, h2, h3, h4⟩ hg hr => ⟨v, h1.own hg hr, row_own h2 hg hr, below_own h3 B4.size h3.size hg hr, h4.own hg hr⟩
 case hK => exact fun pre W ⟨v, h1, h2, h3, h4⟩ => ⟨h4, ht.kept h3⟩
 case round =>
  intro r' pre x post W hL hl hd hi
  gi_wp2
  refine ⟨hl, hd, hi, fun _ => True, fun _ _ _ _ _ _ _ => trivial, trivial, ?_⟩
  clear hl hd hi
  rintro r'' W2 hl hd ⟨v, h1, h2, h3, h4⟩ -
  have c1 := h1.c1
  have f1 := h1.frozen 0
  have hpl : pre.length < 512 := by have := Bs.els_len n 0; rw [hL] at this; simp at this; omega
  clear hL
  gi_wp2_with (gi_at_builtin; refine lift_law rfl (fun _ h => by cases h) (fun K hK => ?_); refine wpList_push (w0 := w) (cell := icell) (y := (x : Int)) rfl _ _ _ rfl w.heap.size w.heap.size 3 i0 _ 8 Tryz.underlying29 Hi.out Hz0.out Hz1.out Hz2.out rfl (by decide) _ _ _ rfl h2 _ _ rfl _ rfl (fun _ => rfl) (by unfold maxLen; omega) (by omega) h3.size (Nat.le_refl _) h3 ?_; intro v' w' hown' hb' hg'; refine hK _ _ ?_; have h1' := h1.grown hg' (h1.ne_own (by decide) h2); have c2 := h1'.c1; have f2 := h1'.frozen 0; obtain ⟨g', cap', rfl⟩ := ownsRow_succ hown')
  have hl' := hl.grown hg' (Hold.ne_own hl rfl h2)
  have hd' := hd.grown hg' (Hold.ne_own hd rfl h2)
  have h4' := h4.grown hg' (h4.ne_own (by decide) h2)
  refine ⟨hl'.set_other (hl'.ne_box rfl h1') _, hd'.set_other (hd'.ne_box rfl h1') _, _, h1'.set 0 _, ?_, hb'.setCell (p := ⟨w2.heap.size, 0, none⟩) B2.size _, h4'.set_other (p := ⟨w2.heap.size, 0, none⟩) (by have := hbX.size; have := u0.lt; dsimp only; omega) _⟩
  have hk := hown'.kept (grownBy_setCell' w' w2.heap.size (.slice (some ⟨g', 0, none⟩) (pre.length + 1) cap')) (.inr (fun e => h1'.ne_own (by decide) hown' e.symm))
  rw [bsl_snoc, List.length_append]
  exact hk
 case done =>
  rintro W ⟨v, h1, h2, h3, h4⟩ hD
  rw [← bsl_len] at h2
  have c1 := h1.c1
  have h2' := h2
  obtain ⟨A9, c9, rfl, hS9⟩ := own_slice (by decide) h2
  go_wp2_with fail
  refine leaves_marks (B := w.heap.size) _ _ (Marks.none_.cons (C := w.heap.size) B4.size B4.size hD) (fun W' hs => ⟨_, results_tmp rfl _ _ _, ?_⟩)
  exact ⟨A9, c9, rfl, hs.own h2', h3.trans (hs.below.mono (Nat.le_refl _))⟩
end Go.Proofs.YtpkepgcmifdpfaaGreatDoor
end
