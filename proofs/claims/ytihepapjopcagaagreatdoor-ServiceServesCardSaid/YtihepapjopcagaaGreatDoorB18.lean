/- A bundle of texts: Bs2, BsL, Served, ServedN, RReach. -/
import Derived.Test.YtihepapjopcagaaGreatDoorB17
import Derived.Test.YtihepapjopcagaaGreatDoorB13
import Derived.Shelf.Spec.TrailingZeros
import Derived.Test.YtihepapjopcagaaGreatDoorB15
import Derived.Test.YtihepapjopcagaaGreatDoorB02
/- Layer 7: members of sets in order; the iterator; the list. -/
section
namespace Go.Proofs.YtihepapjopcagaaGreatDoor
open Go Go.RowKit
set_option maxRecDepth 100000

/-- The library's table of trailing zeros. -/
def Tab64 (w : World) : Prop := TabAt 1 Lib.deBruijn64tab w
theorem Tab64.lt {w : World} (h : Tab64 w) : 1 < w.heap.size := by
  have h0 := h 0 (by decide)
  apply Nat.lt_of_not_le
  intro hle
  rw [World.cell?] at h0
  simp [Array.getElem?_eq_none hle] at h0
theorem Tab64.kept {w w' : World} (h : Tab64 w) (hb : Below w.heap.size w w') : Tab64 w' := fun j hj => (hb.cell (p := ⟨_, j, none⟩) h.lt).trans (h j hj)

set_option maxHeartbeats 4000000 in
theorem tz_core (x k idx : Nat) (w : World) (hx0 : ((x : Int) == 0) = false)
    (key : IntKind.u64.wrap (bits BinOp.and IntKind.u64 (x : Int) (IntKind.u64.wrap (-(x : Int))) * 285870213051353865) / 288230376151711744 = (idx : Int))
    (hi : idx < 64) (hk : k < 64) (hcell : w.cell? ⟨1, idx, none⟩ = some (.int .u8 k)) :
    Calls Tryz.prog 92 #[.int .u64 x] w fun e w' => e = .returned (.int .i64 k) ∧ w = w' := by
  go_enter Tryz.func92, Tryz.ntmps92
  go_wp2_with (simp only [key])
  go_ret
  exact ⟨rfl, rfl⟩
theorem tz_ok (x : Nat) (hx0 : x ≠ 0) (hx : x < 18446744073709551616) (w : World) (hT : Tab64 w) : Calls Tryz.prog 92 #[.int .u64 x] w fun e w' => e = .returned (.int .i64 (Lib.ctz 64 x : Nat)) ∧ w = w' := by
  obtain ⟨hlow, hk⟩ := Lib.lowest_bit 64 x hx0 hx
  obtain ⟨hi, htab⟩ := Lib.deBruijn64_at _ hk
  have hcell := hT _ hi
  rw [htab] at hcell
  exact tz_core x _ _ w (by simp; omega) (tz64_key x _ hx hx0 hlow) hi hk hcell

theorem cut_val (n k s : Nat) : IntKind.u64.wrap (((Bs.wd n k : Nat) : Int) / 2 ^ s * 2 ^ s) = ((Bs.wd n k / 2 ^ s * 2 ^ s : Nat) : Int) := by
  have h : Bs.wd n k / 2 ^ s * 2 ^ s < 18446744073709551616 := Nat.lt_of_le_of_lt (Bs.cut_le _ _) (Bs.wd_lt _ _)
  rw [show (((Bs.wd n k : Nat) : Int) / 2 ^ s * 2 ^ s) = ((Bs.wd n k / 2 ^ s * 2 ^ s : Nat) : Int) by rw [Int.natCast_mul, Int.natCast_ediv, Int.natCast_pow]; rfl, IntKind.wrap_u64]
  generalize Bs.wd n k / 2 ^ s * 2 ^ s = x at *
  omega

set_option maxHeartbeats 4000000 in
theorem bsNext_ok (n i : Nat) (hi : i ≤ 512) (w : World) (ht : Tab64 w) : Calls Tryz.prog 76 #[bsv n, .int .i64 i] w fun e w' => e = .returned (.int .i64 (Bs.nxt n i)) ∧ Below w.heap.size w w' := by
  obtain ⟨V, HW, x0, hB, -⟩ := boxes1 w (bsc n) 60
  obtain ⟨r, HR⟩ : ∃ r, Hid (Bs.nxt n i = r) := ⟨_, Lib.hid rfl⟩
  rw [HR.out]
  have hV := HW.out
  have g1 : decide ((i : Int) < 0) = false := decide_eq_false (by omega)
  by_cases hi5 : i < 512
  · have g2 : decide ((512 : Int) ≤ (i : Int)) = false := decide_eq_false (by omega)
    obtain ⟨k, hk⟩ : ∃ k : Nat, (i : Int) / 64 = (k : Int) := ⟨i / 64, by omega⟩
    obtain ⟨s, hs'⟩ : ∃ s : Nat, (i : Int) % 64 = (s : Int) := ⟨i % 64, by omega⟩
    have hk8 : k < 8 := by omega
    have hs8 : s < 64 := by omega
    have a0 := x0.w8 hk8
    go_enter Tryz.func76, Tryz.ntmps76
    go_wp2_with fail
    rw [cut_val]
    obtain ⟨x1, HX1⟩ : ∃ x1, Hid (Bs.wd n k / 2 ^ s * 2 ^ s = x1) := ⟨_, Lib.hid rfl⟩
    have hx1 : x1 < 18446744073709551616 := by rw [← HX1.out]; exact Nat.lt_of_le_of_lt (Bs.cut_le _ _) (Bs.wd_lt _ _)
    have HB1 : Hid (∀ j, j < 64 → x1.testBit j = (n.testBit (64 * k + j) && decide (i ≤ 64 * k + j))) := Lib.hid (fun j hj => by
      rw [← HX1.out, Bs.cut_bit, Bs.wd_bit]
      have : (s ≤ j) ↔ (i ≤ 64 * k + j) := by omega
      simp [hj, this, Bool.and_comm])
    have HL1 : Hid (∀ m, i ≤ m → m < 64 * k → n.testBit m = false) := Lib.hid (fun m h1 h2 => by omega)
    have hik : i < 64 * (k + 1) := by omega
    rw [HX1.out]
    clear HX1 hk hs' a0 hs8 hi
    go_loop [5, 6] (fun at_ x => ∃ a y : Nat, a < 8 ∧ i < 64 * (a + 1) ∧ at_ = .int .i64 a ∧ x = .int .u64 y ∧ y < 18446744073709551616 ∧ Hid (∀ j, j < 64 → y.testBit j = (n.testBit (64 * a + j) && decide (i ≤ 64 * a + j))) ∧ Hid (∀ m, i ≤ m → m < 64 * a → n.testBit m = false)) (fun at_ _ => 8 - (intOf at_).toNat)
    case atStart => exact ⟨k, x1, hk8, hik, rfl, rfl, hx1, HB1, HL1⟩
    case round =>
      obtain ⟨a, y, ha, hia, rfl, rfl, hy, HB, HL⟩ := hrel
      clear HB1 HL1 hx1 hk8 hik
      by_cases hy0 : y = 0
      · subst hy0
        have HL2 : Hid (∀ m, i ≤ m → m < 64 * (a + 1) → n.testBit m = false) := Lib.hid (fun m h1 h2 => by
          by_cases hm : m < 64 * a
          · exact HL.out m h1 hm
          · have := HB.out (m - 64 * a) (by omega)
            rw [Nat.zero_testBit, show 64 * a + (m - 64 * a) = m by omega] at this
            simpa [h1] using this.symm)
        by_cases ha7 : a + 1 = 8
        · have q1 : (((a : Int) + 1) == 8) = true := by simp; omega
          have HF : Hid (r = -1) := Lib.hid (by rw [← HR.out]; exact Bs.nxt_none (fun m h1 h2 => HL2.out m h1 (by omega)))
          clear ha7
          go_wp2_with fail
          go_ret
          exact ⟨ret_int HF.out.symm, hB⟩
        · have q1 : (((a : Int) + 1) == 8) = false := by simp; omega
          have ha1 : a + 1 < 8 := by omega
          have a1 := x0.w8 ha1
          have j1 : (0 : Int) ≤ (a : Int) + 1 := by omega
          have j2 : (a : Int) + 1 < 8 := by omega
          clear ha7
          go_wp2_with fail
          go_round
          case rel => exact ⟨a + 1, Bs.wd n (a + 1), ha1, by omega, by go_num, rfl, Bs.wd_lt _ _, Lib.hid (fun j hj => by
            rw [Bs.wd_bit]
            have h : i ≤ 64 * (a + 1) + j := by omega
            simp [hj, h]), HL2⟩
          case measure => simp [intOf]; omega
      · have q1 : ((y : Int) == 0) = false := by simp; omega
        obtain ⟨t1, t2, t3⟩ := Bs.ctz_bit hy0 hy
        have HF : Hid (r = 64 * (a : Int) + ((Lib.ctz 64 y : Nat) : Int)) := Lib.hid (by
          rw [← HR.out]
          have h1 := HB.out _ t1
          rw [t2] at h1
          have h2 := (Bool.and_eq_true _ _).mp h1.symm
          rw [Bs.nxt_some h2.1 (of_decide_eq_true h2.2) (by omega) (fun m h3 h4 => by
            by_cases hm : m < 64 * a
            · exact HL.out m h3 hm
            · have h5 := HB.out (m - 64 * a) (by omega)
              rw [t3 _ (by omega), show 64 * a + (m - 64 * a) = m by omega] at h5
              simpa [h3] using h5.symm)]
          omega)
        have kk := tz_ok y hy0 hy V (ht.kept hB)
        generalize Lib.ctz 64 y = z at *
        clear t2 t3 hy0 HB HL
        go_wp2_with fail
        refine kk.mono ?_
        rintro e w1 ⟨rfl, rfl⟩
        go_wp2_with fail
        go_ret
        exact ⟨ret_int HF.out.symm, hB⟩
  · have g2 : decide ((512 : Int) ≤ (i : Int)) = true := decide_eq_true (by omega)
    have HF : Hid (r = -1) := Lib.hid (by rw [← HR.out]; exact Bs.nxt_big (by omega))
    clear hi5 hi
    go_enter Tryz.func76, Tryz.ntmps76
    go_wp2_with fail
    go_ret
    exact ⟨ret_int HF.out.symm, hB⟩

set_option maxHeartbeats 1000000 in
theorem bsMin_ok (n : Nat) (w : World) (ht : Tab64 w) : Calls Tryz.prog 75 #[bsv n] w fun e w' => e = .returned (.int .i64 (Bs.nxt n 0)) ∧ Below w.heap.size w w' := by
  obtain ⟨V, HW, x0, hB, -⟩ := boxes1 w (bsc n) 60
  have k := bsNext_ok n 0 (by decide) V (ht.kept hB)
  generalize Bs.nxt n 0 = r at *
  obtain ⟨c0, c1, c2, c3, c4, c5, c6, c7⟩ := x0.w
  have hV := HW.out
  go_enter Tryz.func75, Tryz.ntmps75
  go_wp2_with fail
  refine k.mono ?_
  rintro e w1 ⟨rfl, hb1⟩
  go_wp2_with fail
  go_ret
  exact ⟨rfl, after_ hB hb1⟩

/-- The iterator's value. -/
def bsAll (b : Nat) : Value := .func (.func 74) #[] #[.pointer (some ⟨b, 0, none⟩)]
theorem hmfB : ∀ (fn : Fn) (first cap : Array Value) (w : World), (Instr.makeFunc fn first cap).run Tryz.prog w = .ok (.func fn first cap) w := fun _ _ _ _ => rfl
set_option maxHeartbeats 1000000 in
theorem bsAll_ok (n : Nat) (w : World) : Calls Tryz.prog 52 #[bsv n] w fun e w' => e = .returned (bsAll w.heap.size) ∧ Below w.heap.size w w' ∧ w'.heap.size = w.heap.size + 1 ∧ Box w' w.heap.size (bsc n) 60 := by
  obtain ⟨V, HW, x0, hB, hs⟩ := boxes1 w (bsc n) 60
  have HS := Lib.hid hs
  clear hs
  have hmf := hmfB
  go_enter Tryz.func52, Tryz.ntmps52
  go_wp2_with fail
  rw [HW.out]
  go_ret
  exact ⟨rfl, hB, HS.out, x0⟩

set_option maxHeartbeats 8000000 in
theorem bsAll_seq (b n : Nat) :
    SeqP Tryz.prog 74 #[.pointer (some ⟨b, 0, none⟩)] (fun x : Nat => #[.int .i64 x]) (Bs.els n 0) (fun W => Box W b (bsc n) 60 ∧ Tab64 W) := by
  intro l J Jx V hJ hJx hJb hY h0
  refine callsIn_wide.2 ?_
  obtain ⟨hb0, ht0⟩ := hJb _ _ h0
  obtain ⟨c0, c1, c2, c3, c4, c5, c6, c7⟩ := hb0.w
  go_enter Tryz.func74, Tryz.ntmps74
  go_wp2_with fail
  refine (bsMin_ok n V ht0).mono ?_
  rintro e w1 ⟨rfl, hb1⟩
  clear c0 c1 c2 c3 c4 c5 c6 c7
  have hJ1 : J [] w1 := hJ _ _ _ none h0 ⟨hb1.os, hb1.tape, hb1.output, hb1.size, fun k hk _ => hb1.block k hk⟩ (fun r e => by cases e)
  go_wp2_with fail
  go_loopw [3] (fun i wr => ∃ (m : Nat) (pre : List Nat), m ≤ 512 ∧ i = .int .i64 (Bs.nxt n m) ∧ Hid (Bs.els n 0 = pre ++ Bs.els n m) ∧ J pre wr) (fun i _ => if intOf i < 0 then 0 else (513 - intOf i).toNat)
  case atStart => exact ⟨0, [], by omega, rfl, Lib.hid rfl, hJ1⟩
  case round =>
    obtain ⟨m, pre, hm, rfl, HE, hJp⟩ := hrel
    clear hJ1 h0
    rcases Bs.els_nxt (n := n) hm with ⟨e1, e2⟩ | ⟨j, h1, h2, h3, h4, h5⟩
    · have HE2 : Hid (Bs.els n 0 = pre) := Lib.hid (by rw [HE.out, e2, List.append_nil])
      rw [e1]
      clear e1 e2
      go_wp2_with fail
      go_end0
      exact ⟨⟨_, rfl⟩, .inl (by rw [HE2.out]; exact hJp)⟩
    · have HE2 : Hid (Bs.els n 0 = pre ++ j :: Bs.els n (j + 1)) := Lib.hid (by rw [HE.out, h5])
      rw [h3]
      clear h3 h4 h5
      have q0 : (0 : Int) ≤ (j : Int) := by omega
      obtain ⟨fn, tmps, assign, body, hy, hR⟩ := hY pre j (Bs.els n (j + 1)) wr HE2.out hJp
      clear hY
      refine (wpIn_wide (n := 9)).1 ?_
      gi_wp2_with fail
      refine hR.mono ?_
      rintro e W3 (⟨rfl, hJ3⟩ | ⟨rfl, hJ3⟩)
      · obtain ⟨hb3, ht3⟩ := hJb _ _ hJ3
        obtain ⟨c0, c1, c2, c3, c4, c5, c6, c7⟩ := hb3.w
        have kk := bsNext_ok n (j + 1) (by omega) W3 ht3
        have e4 : (((j + 1 : Nat) : Int)) = (j : Int) + 1 := by omega
        rw [e4] at kk
        clear e4
        gi_wp2_with fail
        refine ⟨trivial, (callsIn_wide.2 kk).mono ?_⟩
        rintro e w5 ⟨rfl, hb5⟩
        have hJ5 : J (pre ++ [j]) w5 := hJ _ _ _ none hJ3 ⟨hb5.os, hb5.tape, hb5.output, hb5.size, fun k hk _ => hb5.block k hk⟩ (fun r e => by cases e)
        have hlt := Bs.els_nxt (n := n) (i := j + 1) (by omega)
        have hmz : (if Bs.nxt n (j + 1) < 0 then 0 else (513 - Bs.nxt n (j + 1)).toNat) < (513 - (j : Int)).toNat := by
          rcases hlt with ⟨h, _⟩ | ⟨j', h1', h2', h3', _, _⟩
          · rw [h, if_pos (by decide)]; omega
          · rw [h3', if_neg (by omega)]; omega
        clear hlt c0 c1 c2 c3 c4 c5 c6 c7
        have HMZ := Lib.hid hmz
        clear hmz
        gi_wp2_with fail
        go_roundw
        case rel => exact ⟨j + 1, pre ++ [j], by omega, rfl, Lib.hid (by rw [HE2.out, List.append_assoc]; rfl), hJ5⟩
        case measure =>
          have h := HMZ.out
          have hj0 : ¬ (j : Int) < 0 := by omega
          simp only [intOf, hj0, if_false] at h ⊢
          exact h
      · gi_wp2_with fail
        exact bodyPost_ret (results_none rfl _ _ _) rfl ⟨⟨_, rfl⟩, .inr ⟨_, hJ3⟩⟩

theorem idx8v (v0 v1 v2 v3 v4 v5 v6 v7 : Value) (w : World) :
    (Instr.index 58 (.agg #[v0, v1, v2, v3, v4, v5, v6, v7]) (.int .i64 0)).run Tryz.prog w = .ok v0 w ∧ (Instr.index 58 (.agg #[v0, v1, v2, v3, v4, v5, v6, v7]) (.int .i64 1)).run Tryz.prog w = .ok v1 w ∧
    (Instr.index 58 (.agg #[v0, v1, v2, v3, v4, v5, v6, v7]) (.int .i64 2)).run Tryz.prog w = .ok v2 w ∧ (Instr.index 58 (.agg #[v0, v1, v2, v3, v4, v5, v6, v7]) (.int .i64 3)).run Tryz.prog w = .ok v3 w ∧
    (Instr.index 58 (.agg #[v0, v1, v2, v3, v4, v5, v6, v7]) (.int .i64 4)).run Tryz.prog w = .ok v4 w ∧ (Instr.index 58 (.agg #[v0, v1, v2, v3, v4, v5, v6, v7]) (.int .i64 5)).run Tryz.prog w = .ok v5 w ∧
    (Instr.index 58 (.agg #[v0, v1, v2, v3, v4, v5, v6, v7]) (.int .i64 6)).run Tryz.prog w = .ok v6 w ∧ (Instr.index 58 (.agg #[v0, v1, v2, v3, v4, v5, v6, v7]) (.int .i64 7)).run Tryz.prog w = .ok v7 w :=
  ⟨by kernel_rfl, by kernel_rfl, by kernel_rfl, by kernel_rfl, by kernel_rfl, by kernel_rfl, by kernel_rfl, by kernel_rfl⟩
theorem idx8 {n k : Nat} (hk : k < 8) (w : World) : (Instr.index 58 (bsv n) (.int .i64 (k : Int))).run Tryz.prog w = .ok (.int .u64 (Bs.wd n k : Nat)) w := by
  obtain ⟨h0, h1, h2, h3, h4, h5, h6, h7⟩ := idx8v (.int .u64 (Bs.wd n 0 : Nat)) (.int .u64 (Bs.wd n 1 : Nat)) (.int .u64 (Bs.wd n 2 : Nat)) (.int .u64 (Bs.wd n 3 : Nat)) (.int .u64 (Bs.wd n 4 : Nat)) (.int .u64 (Bs.wd n 5 : Nat)) (.int .u64 (Bs.wd n 6 : Nat)) (.int .u64 (Bs.wd n 7 : Nat)) w
  match k, hk with
  | 0, _ => exact h0
  | 1, _ => exact h1
  | 2, _ => exact h2
  | 3, _ => exact h3
  | 4, _ => exact h4
  | 5, _ => exact h5
  | 6, _ => exact h6
  | 7, _ => exact h7

set_option maxHeartbeats 4000000 in
theorem bsLen_some (n : Nat) (w : World) : Calls Tryz.prog 51 #[bsv n] w fun e w' => ∃ r : Nat, r ≤ 1016 ∧ e = .returned (.int .i64 r) ∧ Below w.heap.size w w' := by
  obtain ⟨V, HW, x0, hB, -⟩ := boxes1 w (bsc n) 60
  obtain ⟨c0, c1, c2, c3, c4, c5, c6, c7⟩ := x0.w
  have hV := HW.out
  go_enter Tryz.func51, Tryz.ntmps51
  go_wp2_with fail
  clear hV c0 c1 c2 c3 c4 c5 c6 c7
  go_loop [3, 5, 8] (fun t _ i => ∃ k c : Nat, k ≤ 8 ∧ c ≤ 127 * k ∧ i = .int .i64 k ∧ t = .int .i64 c) (fun _ _ i => 8 - (intOf i).toNat)
  case atStart => exact ⟨0, 0, by omega, by omega, rfl, rfl⟩
  case round =>
    obtain ⟨k, c, hk, hc, rfl, rfl⟩ := hrel
    by_cases hlt : k < 8
    · have ix := idx8 (n := n) hlt
      have q1 : (k : Int) < 8 := by omega
      go_wp2_with fail
      refine (onesCount_some _ _).mono ?_
      rintro e w1 ⟨r, hr, rfl, rfl⟩
      go_wp2_with fail
      go_round
      case rel => exact ⟨k + 1, c + r, by omega, by omega, by go_num, by go_num⟩
      case measure => simp [intOf]; omega
    · obtain rfl : k = 8 := by omega
      go_wp2_with fail
      go_ret
      exact ⟨c, by omega, rfl, hB⟩
end Go.Proofs.YtihepapjopcagaaGreatDoor
end

/- Layer 7: the list of a set's members. -/
section
namespace Go.Proofs.YtihepapjopcagaaGreatDoor
open Go Go.RowKit
set_option maxRecDepth 100000

/-- The members as ints. -/
def bsl (l : List Nat) : List Int := l.map fun (x : Nat) => (x : Int)
theorem bsl_snoc (l : List Nat) (x : Nat) : bsl (l ++ [x]) = bsl l ++ [(x : Int)] := by simp [bsl]
theorem bsl_len (l : List Nat) : (bsl l).length = l.length := by simp [bsl]

theorem intInfoB : (Tryz.prog.info? 3).map (fun i => (i.zero, i.size, i.bytes)) = some (some (.int .i64 0), 1, 8) := by kernel_rfl

set_option maxHeartbeats 8000000 in
theorem bsList_ok (n : Nat) (w : World) (ht : Tab64 w) : Calls Tryz.prog 29 #[bsv n] w (RetS 1 icell w (bsl (Bs.els n 0))) := by
  obtain ⟨V, HW, x0, hB, -⟩ := boxes1 w (bsc n) 60
  obtain ⟨i0, hi, hz0, hz1, hz2⟩ := info_parts intInfoB
  have Hi := Lib.hid hi; have Hz0 := Lib.hid hz0; have Hz1 := Lib.hid hz1; have Hz2 := Lib.hid hz2
  clear hi hz0 hz1 hz2
  obtain ⟨c0, c1, c2, c3, c4, c5, c6, c7⟩ := x0.w
  have hV := HW.out
  refine calls_marks Tryz.func29 rfl ?_
  simp only [Tryz.ntmps29, List.size_toArray, List.length_cons, List.length_nil, Nat.reduceAdd, Nat.reduceSub, Array.replicate_succ, Array.replicate_zero, List.push_toArray, List.append_toArray, List.nil_append, List.cons_append]
  go_wp2_with fail
  clear hV c0 c1 c2 c3 c4 c5 c6 c7
  refine (bsLen_some n V).mono ?_
  rintro e w1 ⟨r, hr, rfl, hb1⟩
  have B1 := after_ hB hb1
  have y0 := x0.below hb1
  go_wp2_with (at_make; refine wpList_make_own _ rfl _ _ 28 rfl w.heap.size 3 i0 _ 1 Tryz.underlying28 Hi.out Hz0.out Hz1.out .i64 .i64 _ r rfl rfl rfl (by rw [Hz2.out]; omega) (by unfold maxLen; omega) B1.size ?_; intro w2 hown2 hg2; have hB2 : Below w1.heap.size w1 w2 := (Below.refl _ _).grown hg2 (Nat.le_refl _) (by simp); have B2 := after_ B1 hB2; obtain ⟨X, HX, u0, hbX, -⟩ := boxes1 w2 #[.slice (some ⟨w1.heap.size, 0, none⟩) 0 r] 28; have yX := (y0.below hB2).below hbX; obtain ⟨c0, c1, c2, c3, c4, c5, c6, c7⟩ := yX.w; have hX := HX.out)
  clear hX c0 c1 c2 c3 c4 c5 c6 c7
  have BX := after_ B2 hbX
  have hownX := own_below hown2 hbX
  refine (bsAll_ok n X).mono ?_
  rintro e w4 ⟨rfl, hb4, hs4, xb⟩
  have B4 := after_ BX hb4
  have u4 := u0.below hb4
  have hown4 := own_below hownX hb4
  have tb4 := ht.kept B4
  go_wp2_with fail
  refine wp_range (gf := 74) (lb := #[.pointer (some ⟨X.heap.size, 0, none⟩)]) rfl (enters_of Tryz.func74 (by kernel_rfl) rfl) (bsAll_seq X.heap.size n) (fun _ => rfl)
    (fun pre W => ∃ v, Box W w2.heap.size #[v] 28 ∧ W.ownsRow w.heap.size 3 1 v pre.length (flat 1 icell (bsl pre)) ∧ Below w.heap.size w W ∧ Box W X.heap.size (bsc n) 60) (fun _ _ _ => False)
    ?hI (fun _ _ _ _ _ h => h.elim) ?hK ⟨_, u4, hown4, B4, xb⟩ ?round ?done (fun _ _ _ h => h.elim)
  case hI => exact fun pre W W' row ⟨v, h1, h2, h3, h4⟩ hg hr => ⟨v, h1.own hg hr, row_own h2 hg hr, below_own h3 B4.size h3.size hg hr, h4.own hg hr⟩
  case hK => exact fun pre W ⟨v, h1, h2, h3, h4⟩ => ⟨h4, ht.kept h3⟩
  case round =>
    intro r' pre x post W hL hl hd hi
    gi_wp2
    refine ⟨hl, hd, hi, fun _ => True, fun _ _ _ _ _ _ _ => trivial, trivial, ?_⟩
    clear hl hd hi
    rintro r'' W2 hl hd ⟨v, h1, h2, h3, h4⟩ -
    have c1 := h1.c1
    have f1 := h1.frozen 0
    have hpl : pre.length < 512 := by have := Bs.els_len n 0; rw [hL] at this; simp at this; omega
    clear hL
    gi_wp2_with (gi_at_builtin; refine lift_law rfl (fun _ h => by cases h) (fun K hK => ?_); refine wpList_push (w0 := w) (cell := icell) (y := (x : Int)) rfl _ _ _ rfl w.heap.size w.heap.size 3 i0 _ 8 Tryz.underlying28 Hi.out Hz0.out Hz1.out Hz2.out rfl (by decide) _ _ _ rfl h2 _ _ rfl _ rfl (fun _ => rfl) (by unfold maxLen; omega) (by omega) h3.size (Nat.le_refl _) h3 ?_; intro v' w' hown' hb' hg'; refine hK _ _ ?_; have h1' := h1.grown hg' (h1.ne_own (by decide) h2); have c2 := h1'.c1; have f2 := h1'.frozen 0; obtain ⟨g', cap', rfl⟩ := ownsRow_succ hown')
    have hl' := hl.grown hg' (Hold.ne_own hl rfl h2)
    have hd' := hd.grown hg' (Hold.ne_own hd rfl h2)
    have h4' := h4.grown hg' (h4.ne_own (by decide) h2)
    refine ⟨hl'.set_other (hl'.ne_box rfl h1') _, hd'.set_other (hd'.ne_box rfl h1') _, _, h1'.set 0 _, ?_, hb'.setCell (p := ⟨w2.heap.size, 0, none⟩) B2.size _, h4'.set_other (p := ⟨w2.heap.size, 0, none⟩) (by have := hbX.size; have := u0.lt; dsimp only; omega) _⟩
    have hk := hown'.kept (grownBy_setCell' w' w2.heap.size (.slice (some ⟨g', 0, none⟩) (pre.length + 1) cap')) (.inr (fun e => h1'.ne_own (by decide) hown' e.symm))
    rw [bsl_snoc, List.length_append]
    exact hk
  case done =>
    rintro W ⟨v, h1, h2, h3, h4⟩ hD
    have c1 := h1.c1
    obtain ⟨A9, c9, rfl, hS9⟩ := own_slice (by decide) h2
    go_wp2_with fail
    refine leaves_marks (B := w.heap.size) _ _ (Marks.none_.cons (C := w.heap.size) B4.size B4.size hD) (fun W' hs => ⟨_, results_tmp rfl _ _ _, ?_⟩)
    exact ⟨A9, c9, rfl, hs.sl hS9, h3.trans (hs.below.mono (Nat.le_refl _))⟩
end Go.Proofs.YtihepapjopcagaaGreatDoor
end

/- Layer 14: Served. -/
section
namespace Go.Proofs.YtihepapjopcagaaGreatDoor
open Go Go.RowKit
set_option maxRecDepth 100000

/-- The numbers of the stations that cover a cell, as a set. -/
def M.servN (W : Int) (G : List Int) (cx cy : Int) (l : List St) : Nat := l.foldl (fun n s => if M.cov W G s cx cy then n ||| 2 ^ s.id.toNat else n) 0
theorem M.servN_snoc (W : Int) (G : List Int) (cx cy : Int) (l : List St) (s : St) : M.servN W G cx cy (l ++ [s]) = if M.cov W G s cx cy then M.servN W G cx cy l ||| 2 ^ s.id.toNat else M.servN W G cx cy l := by
  unfold M.servN
  rw [List.foldl_append]
  rfl

set_option maxHeartbeats 16000000 in
theorem served_ok (W H : Int) (GA PA : Option Addr) (gc pc : Nat) (G P : List Int) (LA : Option Addr) (lc : Nat) (es : List SE) (cx cy : Int) (w : World) (ht : Tab w) (hg : Sl 1 icell w w.heap.size GA G) (hp : Sl 1 icell w w.heap.size PA P) (hL : Sl 8 secell w w.heap.size LA es) (hP : Pats w es)
    (hl : es.length ≤ 1000) (hob : ∀ e ∈ es, M.okS W H G P e.s = true) (hhas : M.has W H G P cx cy = true) :
    Calls Tryz.prog 26 #[tv W H GA PA G.length gc P.length pc, .slice LA es.length lc, cv cx cy] w fun e w' => e = .returned (.tuple #[bsv (M.servN W G cx cy (es.map (·.s))), .int .i64 0]) ∧ Below w.heap.size w w' := by
  obtain ⟨V, HW, x0, x1, x2, hB, hs⟩ := boxes3 w #[.int .i64 W, .int .i64 H, .slice GA G.length gc, .slice PA P.length pc] 30 #[.int .i64 cx, .int .i64 cy] 36 #[.int .u64 0, .int .u64 0, .int .u64 0, .int .u64 0, .int .u64 0, .int .u64 0, .int .u64 0, .int .u64 0] 60
  have HS := Lib.hid hs
  obtain ⟨htv, hin⟩ := (Bool.and_eq_true _ _).mp (show (M.tvalid W H G P && M.inside W H cx cy) = true from hhas)
  have hin' := M.inside_iff.1 hin
  obtain ⟨r1, r2, r3, r4, r5, r6⟩ := M.tvalid_iff.1 htv
  obtain ⟨wh1, wh2⟩ := M.wh_le r1 r2
  have HC : Hid (M.chk W H G P (es.map (·.s)) = 0) := Lib.hid (by
    unfold M.chk
    rw [if_pos]
    rw [Bool.and_eq_true, List.all_eq_true]
    exact ⟨htv, fun s hs => by obtain ⟨e, he, rfl⟩ := List.mem_map.1 hs; exact hob e he⟩)
  have hpe : ∀ e ∈ es, e.s.pat.length ≤ 1000 := fun e he => by
    have h1 := (M.okS_iff.1 (hob e he)).1
    have h2 := (M.avalid_iff.1 (M.svalid_iff.1 h1).2.2.2.2.2.2).2.1
    omega
  have HPE := Lib.hid hpe
  have HOB := Lib.hid hob
  have HHAS := Lib.hid hhas
  have HIN := Lib.hid hin'
  have hgl : G.length ≤ 5000 := by omega
  have hpl : P.length ≤ 5000 := by omega
  clear hob htv r5 r6 hpe hs r3 r4 hhas hin hin'
  obtain ⟨c0, c1, c2, c3⟩ := x0.c4
  obtain ⟨d0, d1⟩ := x1.c2
  have hV := HW.out
  go_enter Tryz.func26, Tryz.ntmps26
  go_wp2_with fail
  clear hV
  refine (check_any W H GA PA gc pc G P LA lc es V ((hg.below hB).more hB.size) ((hp.below hB).more hB.size) ((hL.below hB).more hB.size) (hP.below hB) (by omega) (by omega) (by omega) HPE.out).mono ?_
  rintro e w1 ⟨rfl, hb1⟩
  rw [HC.out]
  have B1 := after_ hB hb1
  clear c0 c1 c2 c3 d0 d1
  obtain ⟨c0, c1, c2, c3⟩ := (x0.below hb1).c4
  obtain ⟨d0, d1⟩ := (x1.below hb1).c2
  go_wp2_with fail
  refine (has_any W H GA PA gc pc G P cx cy w1 ((hg.below B1).more B1.size) ((hp.below B1).more B1.size) (by omega) (by omega)).mono ?_
  rintro e w2 ⟨rfl, hb2⟩
  rw [HHAS.out]
  have B2 := after_ B1 hb2
  have hb12 := after_ hb1 hb2
  clear c0 c1 c2 c3 d0 d1
  obtain ⟨U, HU, u0, hbU, -⟩ := boxes1 w2 #[.int .u64 0, .int .u64 0, .int .u64 0, .int .u64 0, .int .u64 0, .int .u64 0, .int .u64 0, .int .u64 0] 60
  have hU := HU.out
  go_wp2_with fail
  clear hU
  have BU := after_ B2 hbU
  have v0 := (x0.below hb12).below hbU
  have v1 := (x1.below hb12).below hbU
  have v2 := (x2.below hb12).below hbU
  have hsz : w.heap.size + 3 ≤ w2.heap.size := by have := HS.out; have := hb12.size; omega
  have u00 : Box U w2.heap.size (bsc 0) 60 := by
    have e : bsc 0 = #[.int .u64 0, .int .u64 0, .int .u64 0, .int .u64 0, .int .u64 0, .int .u64 0, .int .u64 0, .int .u64 0] := by simp [bsc, Bs.wd_zero]
    rw [e]; exact u0
  obtain ⟨rr, HRR⟩ : ∃ rr, Hid (M.servN W G cx cy (es.map (·.s)) = rr) := ⟨_, Lib.hid rfl⟩
  go_loopw [11, 12, 13, 28] (fun _ _ _ i wr => ∃ k n : Nat, k ≤ es.length ∧ i = .int .i64 k ∧ Below w.heap.size w wr ∧ Box wr w.heap.size #[.int .i64 W, .int .i64 H, .slice GA G.length gc, .slice PA P.length pc] 30 ∧ Box wr (w.heap.size + 1) #[.int .i64 cx, .int .i64 cy] 36 ∧ Box wr (w.heap.size + 1 + 1) #[.int .u64 0, .int .u64 0, .int .u64 0, .int .u64 0, .int .u64 0, .int .u64 0, .int .u64 0, .int .u64 0] 60 ∧ Box wr w2.heap.size (bsc n) 60 ∧ Hid (n = M.servN W G cx cy ((es.take k).map (·.s)))) (fun _ _ _ i _ => es.length - (intOf i).toNat)
  case atStart => exact ⟨0, 0, Nat.zero_le _, rfl, BU, v0, v1, v2, u00, Lib.hid rfl⟩
  case round =>
    obtain ⟨k, n, hk, rfl, hBr, t0, t1, t2, t3, HN⟩ := hrel
    clear u0 u00 v0 v1 v2
    by_cases hlt : k < es.length
    · obtain ⟨la, hla, hlb, a0, a1, a2, a3, a4, a5, a6, a7⟩ := ((hL.below hBr).more hBr.size).st8 hlt
      have hSk := hP.at_ hlt
      have hok := HOB.out es[k] (List.getElem_mem hlt)
      have hin := HIN.out
      have HOF := Lib.hid (M.okS_F hok hin.1.1 hin.1.2 hin.2.1 hin.2.2)
      have hid := (M.svalid_iff.1 (M.okS_iff.1 hok).1).1
      have HT : Hid (M.servN W G cx cy ((es.take (k + 1)).map (·.s)) = if M.cov W G es[k].s cx cy then n ||| 2 ^ es[k].s.id.toNat else n) := Lib.hid (by
        rw [List.take_succ_eq_append_getElem hlt, List.map_append, HN.out]
        exact M.servN_snoc W G cx cy _ _)
      clear hok hin
      generalize es[k] = ek at *
      obtain ⟨s, A', c'⟩ := ek
      simp only at a0 a1 a2 a3 a4 a5 a6 a7 hSk hid HOF HT
      obtain ⟨q, hq⟩ : ∃ q : Nat, s.id = (q : Int) := ⟨s.id.toNat, by omega⟩
      have HQ : Hid (s.id.toNat = q) := Lib.hid (by omega)
      rw [HQ.out] at HT
      have hq5 : q < 512 := by omega
      subst hla
      obtain ⟨X, HX, u0, hbX, -⟩ := boxes1 wr (stc s A' c') 34
      have BX := after_ hBr hbX
      have p0 := t0.below hbX
      have p1 := t1.below hbX
      have p2 := t2.below hbX
      have p3 := t3.below hbX
      obtain ⟨c0, c1, c2, c3⟩ := p0.c4
      obtain ⟨d0, d1⟩ := p1.c2
      obtain ⟨e0, e1, e2, e3, e4, e5, e6, e7⟩ := u0.c8
      have hX := HX.out
      have HQQ := Lib.hid hq
      clear hq
      go_wp2_with fail
      clear hX c0 c1 c2 c3 d0 d1 e1 e2 e3 e4 e5 e6 e7 a0 a1 a2 a3 a4 a5 a6 a7
      refine (covers_ok W H GA PA gc pc G P s A' c' cx cy X (ht.kept BX) ((hg.below BX).more BX.size) ((hp.below BX).more BX.size) ((hSk.below BX).more BX.size) HOF.out).mono ?_
      rintro e w5 ⟨rfl, hb5⟩
      have B5 := after_ BX hb5
      replace p0 := p0.below hb5
      replace p1 := p1.below hb5
      replace p2 := p2.below hb5
      replace p3 := p3.below hb5
      have ub := u0.below hb5
      cases hcv : M.cov W G s cx cy with
      | false =>
        have HT2 : Hid (n = M.servN W G cx cy ((es.take (k + 1)).map (·.s))) := Lib.hid (by rw [HT.out, hcv]; rfl)
        go_wp2_with fail
        go_roundw
        case rel => exact ⟨k + 1, n, hlt, by go_num, B5, p0, p1, p2, p3, HT2⟩
        case measure => simp [intOf]; omega
      | true =>
        have HT2 : Hid (n ||| 2 ^ q = M.servN W G cx cy ((es.take (k + 1)).map (·.s))) := Lib.hid (by rw [HT.out, hcv]; rfl)
        obtain ⟨f0, f1, f2, f3, f4, f5, f6, f7⟩ := p3.w
        have i0 := ub.c8.1
        rw [HQQ.out] at i0
        go_wp2_with fail
        clear f0 f1 f2 f3 f4 f5 f6 f7 i0
        refine (bsAdd_ok n q w5 hq5).mono ?_
        rintro e w6 ⟨rfl, hb6⟩
        have B6 := after_ B5 hb6
        replace p0 := p0.below hb6
        replace p1 := p1.below hb6
        replace p2 := p2.below hb6
        replace p3 := p3.below hb6
        generalize n ||| 2 ^ q = m at *
        obtain ⟨Y, HY, z, hBY, hsY, hoY⟩ := store8 w6 w2.heap.size m _ _ p3 rfl
        have hY := HY.out
        obtain ⟨f0, f1, f2, f3, f4, f5, f6, f7⟩ := p3.w
        have g0 := p3.frozen 0
        have g1 := p3.frozen 1
        have g2 := p3.frozen 2
        have g3 := p3.frozen 3
        have g4 := p3.frozen 4
        have g5 := p3.frozen 5
        have g6 := p3.frozen 6
        have g7 := p3.frozen 7
        go_wp2_with fail
        go_roundw
        case rel => exact ⟨k + 1, m, hlt, by go_num, hBY _ _ B2.size B6, hoY _ _ _ (by omega) p0, hoY _ _ _ (by omega) p1, hoY _ _ _ (by omega) p2, z, HT2⟩
        case measure => simp [intOf]; omega
    · obtain rfl : k = es.length := by omega
      have HN2 : Hid (n = M.servN W G cx cy (es.map (·.s))) := Lib.hid (by have := HN.out; rwa [List.take_length] at this)
      obtain ⟨Y, HY, z, hBY, -, -⟩ := store8 wr (w.heap.size + 1 + 1) n _ _ t2 rfl
      have hY := HY.out
      obtain ⟨f0, f1, f2, f3, f4, f5, f6, f7⟩ := t3.w
      obtain ⟨d0, d1, d2, d3, d4, d5, d6, d7⟩ := t2.c8
      have g0 := t2.frozen 0
      have g1 := t2.frozen 1
      have g2 := t2.frozen 2
      have g3 := t2.frozen 3
      have g4 := t2.frozen 4
      have g5 := t2.frozen 5
      have g6 := t2.frozen 6
      have g7 := t2.frozen 7
      obtain ⟨z0, z1, z2, z3, z4, z5, z6, z7⟩ := z.w
      go_wp2_with fail
      refine bodyPost_ret (v := .tuple #[bsv n, .int .i64 0]) ?_ rfl ⟨by rw [HN2.out], hBY _ _ (by omega) hBr⟩
      simp [results, Tryz.results26, go_sem, z0, z1, z2, z3, z4, z5, z6, z7]

end Go.Proofs.YtihepapjopcagaaGreatDoor
end

/- Layer 14: Served with an error. -/
section
namespace Go.Proofs.YtihepapjopcagaaGreatDoor
open Go Go.RowKit
set_option maxRecDepth 100000

theorem bsc0 : bsc 0 = #[.int .u64 0, .int .u64 0, .int .u64 0, .int .u64 0, .int .u64 0, .int .u64 0, .int .u64 0, .int .u64 0] := by simp [bsc, Bs.wd_zero]
set_option maxHeartbeats 8000000 in
theorem served_no (W H : Int) (GA PA : Option Addr) (gc pc : Nat) (G P : List Int) (LA : Option Addr) (lc : Nat) (es : List SE) (cx cy : Int) (w : World) (hg : Sl 1 icell w w.heap.size GA G) (hp : Sl 1 icell w w.heap.size PA P) (hL : Sl 8 secell w w.heap.size LA es) (hP : Pats w es)
    (hl : es.length ≤ 1000) (hgl : G.length ≤ 9223372036854775806) (hpl : P.length ≤ 9223372036854775806) (hpe : ∀ e ∈ es, e.s.pat.length ≤ 1000) (hno : M.chk W H G P (es.map (·.s)) = 2 ∨ (M.chk W H G P (es.map (·.s)) = 0 ∧ M.has W H G P cx cy = false)) :
    Calls Tryz.prog 26 #[tv W H GA PA G.length gc P.length pc, .slice LA es.length lc, cv cx cy] w fun e w' => e = .returned (.tuple #[bsv 0, .int .i64 2]) ∧ Below w.heap.size w w' := by
  obtain ⟨V, HW, x0, x1, x2, hB, -⟩ := boxes3 w #[.int .i64 W, .int .i64 H, .slice GA G.length gc, .slice PA P.length pc] 30 #[.int .i64 cx, .int .i64 cy] 36 #[.int .u64 0, .int .u64 0, .int .u64 0, .int .u64 0, .int .u64 0, .int .u64 0, .int .u64 0, .int .u64 0] 60
  have k := check_any W H GA PA gc pc G P LA lc es V ((hg.below hB).more hB.size) ((hp.below hB).more hB.size) ((hL.below hB).more hB.size) (hP.below hB) hgl hpl (by omega) hpe
  have HB0 : Hid (bsv 0 = .agg #[.int .u64 0, .int .u64 0, .int .u64 0, .int .u64 0, .int .u64 0, .int .u64 0, .int .u64 0, .int .u64 0]) := Lib.hid (by unfold bsv; rw [bsc0])
  rw [HB0.out]
  obtain ⟨c0, c1, c2, c3⟩ := x0.c4
  obtain ⟨d0, d1⟩ := x1.c2
  have hV := HW.out
  rcases hno with hno | ⟨hno, hh⟩
  · rw [hno] at k
    clear hno
    go_enter Tryz.func26, Tryz.ntmps26
    go_wp2_with fail
    clear hV
    refine k.mono ?_
    rintro e w1 ⟨rfl, hb1⟩
    have B1 := after_ hB hb1
    have y := x2.below hb1
    have yz := y
    rw [← bsc0] at yz
    obtain ⟨Y, HY, z, hBY, -, -⟩ := store8 w1 (w.heap.size + 1 + 1) 0 _ _ yz rfl
    have HY2 := HY
    simp only [Bs.wd_zero, show ((0 : Nat) : Int) = 0 from rfl] at HY2
    rw [bsc0] at z
    obtain ⟨z0, z1, z2, z3, z4, z5, z6, z7⟩ := z.c8
    obtain ⟨q0, q1, q2, q3, q4, q5, q6, q7⟩ := y.c8
    have g0 := y.frozen 0
    have g1 := y.frozen 1
    have g2 := y.frozen 2
    have g3 := y.frozen 3
    have g4 := y.frozen 4
    have g5 := y.frozen 5
    have g6 := y.frozen 6
    have g7 := y.frozen 7
    go_wp2_with fail
    rw [HY2.out]
    refine bodyPost_ret (v := .tuple #[.agg #[.int .u64 0, .int .u64 0, .int .u64 0, .int .u64 0, .int .u64 0, .int .u64 0, .int .u64 0, .int .u64 0], .int .i64 2]) ?_ rfl ⟨rfl, hBY _ _ (by omega) B1⟩
    simp [results, Tryz.results26, go_sem, z0, z1, z2, z3, z4, z5, z6, z7]
  · rw [hno] at k
    clear hno
    have HH := Lib.hid hh
    clear hh
    go_enter Tryz.func26, Tryz.ntmps26
    go_wp2_with fail
    clear hV c0 c1 c2 c3 d0 d1
    refine k.mono ?_
    rintro e w1 ⟨rfl, hb1⟩
    have B1 := after_ hB hb1
    obtain ⟨c0, c1, c2, c3⟩ := (x0.below hb1).c4
    obtain ⟨d0, d1⟩ := (x1.below hb1).c2
    go_wp2_with fail
    refine (has_any W H GA PA gc pc G P cx cy w1 ((hg.below B1).more B1.size) ((hp.below B1).more B1.size) hgl hpl).mono ?_
    rintro e w2 ⟨rfl, hb2⟩
    rw [HH.out]
    have B2 := after_ B1 hb2
    have y := (x2.below hb1).below hb2
    have yz := y
    rw [← bsc0] at yz
    obtain ⟨Y, HY, z, hBY, -, -⟩ := store8 w2 (w.heap.size + 1 + 1) 0 _ _ yz rfl
    have HY2 := HY
    simp only [Bs.wd_zero, show ((0 : Nat) : Int) = 0 from rfl] at HY2
    rw [bsc0] at z
    obtain ⟨z0, z1, z2, z3, z4, z5, z6, z7⟩ := z.c8
    obtain ⟨q0, q1, q2, q3, q4, q5, q6, q7⟩ := y.c8
    have g0 := y.frozen 0
    have g1 := y.frozen 1
    have g2 := y.frozen 2
    have g3 := y.frozen 3
    have g4 := y.frozen 4
    have g5 := y.frozen 5
    have g6 := y.frozen 6
    have g7 := y.frozen 7
    go_wp2_with fail
    rw [HY2.out]
    refine bodyPost_ret (v := .tuple #[.agg #[.int .u64 0, .int .u64 0, .int .u64 0, .int .u64 0, .int .u64 0, .int .u64 0, .int .u64 0, .int .u64 0], .int .i64 2]) ?_ rfl ⟨rfl, hBY _ _ (by omega) B2⟩
    simp [results, Tryz.results26, go_sem, z0, z1, z2, z3, z4, z5, z6, z7]
end Go.Proofs.YtihepapjopcagaaGreatDoor
end

/- Layer 14: the document's Reach. -/
section
namespace Go.Proofs.YtihepapjopcagaaGreatDoor
open Go Go.RowKit
set_option maxRecDepth 100000

theorem M.reachL_take {W H : Int} {G : List Int} {l : List SE} {k : Nat} (h : k < l.length) : M.reachL W H G ((l.take (k + 1)).map (·.s)) = M.reachL W H G ((l.take k).map (·.s)) ++ M.area W H G l[k].s := by
  unfold M.reachL
  rw [List.take_succ_eq_append_getElem h, List.map_append, List.flatMap_append]
  simp
theorem M.reachL_in {W H : Int} {G : List Int} {l : List St} : ∀ x ∈ M.reachL W H G l, 0 ≤ x ∧ x < W * H := by
  intro x hx
  obtain ⟨s, _, h⟩ := List.mem_flatMap.1 hx
  exact M.area_in x h

set_option maxHeartbeats 8000000 in
theorem rReach_ok (W H : Int) (GA PA : Option Addr) (gc pc : Nat) (G P : List Int) (LA : Option Addr) (lc : Nat) (es : List SE) (w : World) (hg : Sl 1 icell w w.heap.size GA G) (hp : Sl 1 icell w w.heap.size PA P) (hL : Sl 8 secell w w.heap.size LA es) (hP : Pats w es)
    (hl : es.length ≤ 20) (htv : M.tvalid W H G P = true) (hob : ∀ e ∈ es, M.okS W H G P e.s = true) :
    Calls Tryz.prog 32 #[tv W H GA PA G.length gc P.length pc, .slice LA es.length lc] w fun e w' => e = .returned (.int .i64 (M.total P (M.reachL W H G (es.map (·.s))))) ∧ Below w.heap.size w w' := by
  obtain ⟨V, HW, x0, hB, -⟩ := boxes1 w #[.int .i64 W, .int .i64 H, .slice GA G.length gc, .slice PA P.length pc] 30
  obtain ⟨i0, hi, hz0, hz1, hz2⟩ := info_parts intInfo
  have Hi := Lib.hid hi; have Hz0 := Lib.hid hz0; have Hz1 := Lib.hid hz1; have Hz2 := Lib.hid hz2
  clear hi hz0 hz1 hz2
  obtain ⟨r1, r2, r3, r4, r5, r6⟩ := M.tvalid_iff.1 htv
  have HR6 := Lib.hid r6
  have HOB := Lib.hid hob
  have HTV := Lib.hid htv
  clear hob htv r5 r6
  obtain ⟨r, hr⟩ : ∃ r, M.total P (M.reachL W H G (es.map (·.s))) = r := ⟨_, rfl⟩
  rw [hr]
  have HR := Lib.hid hr
  clear hr
  go_enter Tryz.func32, Tryz.ntmps32
  go_wp2_with fail
  rw [HW.out]
  go_loopw [5, 6] (fun out i wr => ∃ (k : Nat) (os : List Int), k ≤ es.length ∧ i = .int .i64 k ∧ Below w.heap.size w wr ∧ Below V.heap.size V wr ∧ os.length ≤ 4096 * k ∧ wr.ownsRow V.heap.size 3 1 out os.length (flat 1 icell os) ∧ Hid (os = M.reachL W H G ((es.take k).map (·.s)))) (fun _ i _ => es.length - (intOf i).toNat)
  case atStart => exact ⟨0, [], Nat.zero_le _, rfl, hB, Below.refl _ _, by simp, own_nil _ _ _ _ _, Lib.hid (by simp [M.reachL])⟩
  case round =>
    obtain ⟨k, os, hk, rfl, hBw, hBr, hol, hown, HO⟩ := hrel
    have y0 := x0.below hBr
    obtain ⟨c0, c1, c2, c3⟩ := y0.c4
    by_cases hlt : k < es.length
    · obtain ⟨la, rfl, hlb, a0, a1, a2, a3, a4, a5, a6, a7⟩ := ((hL.below hBw).more hBw.size).st8 hlt
      have hSk := (hP.below hBw).at_ hlt
      have HKO := Lib.hid (HOB.out es[k] (List.getElem_mem hlt))
      have HT := Lib.hid (M.reachL_take (W := W) (H := H) (G := G) hlt)
      generalize es[k] = ek at *
      obtain ⟨s, A', c'⟩ := ek
      simp only at a0 a1 a2 a3 a4 a5 a6 a7 hSk HKO HT
      have l0 := y0.lt
      have i1 : (0 : Int) ≤ (k : Int) := by omega
      have i2 : (k : Int) < (es.length : Int) := by omega
      have hll : (M.area W H G s).length ≤ 4096 := Nat.le_trans M.area_len (by have := M.wh_le r1 r2; omega)
      go_wp2_with fail
      refine wp_region_kept_tail1 6 wr.heap.size wr _ (by kernel_rfl) rfl rfl (by kernel_rfl) (by kernel_rfl) (by kernel_rfl) (fun _ _ _ _ h => h) (Below.refl _ _) ?_
      simp only [List.take_succ_cons, List.take_zero, List.drop_succ_cons, List.drop_zero]
      repeat (go_big_quiet_step ((fail)))
      refine wpQuiet_nil ?_
      rintro w4 ⟨⟨_, hb4⟩, rfl⟩
      clear a0 a1 a2 a3 a4 a5 a6 a7 c0 c1 c2 c3 l0 i1 i2
      have B4 := after_ hBw hb4
      go_wp2_with fail
      have kc := rArea_ok W H GA PA gc pc G P s A' c' w4 ((hg.below B4).more B4.size) ((hSk.below hb4).more hb4.size) HKO.out
      refine kc.mono ?_
      rintro e w5 ⟨RA, rc, rfl, hRA, hb5⟩
      have hown5 := own_below (own_below hown hb4) hb5
      have B5 := after_ (after_ hBr hb4) hb5
      have Bw5 := after_ B4 hb5
      clear kc
      obtain ⟨ls, HLS⟩ : ∃ ls, Hid (M.area W H G s = ls) := ⟨_, Lib.hid rfl⟩
      rw [HLS.out] at hRA hll HT ⊢
      go_wp2_with (at_builtin; refine wpList_append_sl _ (w0 := V) (cell := icell) rfl _ _ _ rfl V.heap.size V.heap.size 3 i0 _ 8 Tryz.underlying28 Hi.out Hz0.out Hz1.out Hz2.out rfl (by decide) _ _ _ rfl hown5 _ RA rc ls rfl hRA (fun _ _ => rfl) (by unfold maxLen; omega) (by omega) B5.size (Nat.le_refl _) B5 ?_; intro v' w' hown' hb' _)
      go_roundw
      case rel => exact ⟨k + 1, os ++ ls, hlt, by go_num, hB.trans (hb'.mono hB.size), hb', by rw [List.length_append]; omega, by rw [List.length_append]; exact hown', Lib.hid (by rw [HT.out, HO.out])⟩
      case measure => simp [intOf]; omega
    · obtain rfl : k = es.length := by omega
      have HQ := HO.out
      rw [List.take_length] at HQ
      have HIN : Hid (∀ x ∈ os, 0 ≤ x ∧ x < W * H) := Lib.hid (by rw [HQ]; exact M.reachL_in)
      have HRR : Hid (M.total P os = r) := Lib.hid (by rw [HQ]; exact HR.out)
      clear HQ HO
      obtain ⟨A9, c9, rfl, hS9⟩ := own_slice (by decide) hown
      go_wp2_with fail
      refine (rTot_ok W H GA PA gc pc G.length P A9 c9 os wr ((hp.below hBw).more hBw.size) hS9 r1 r2 r4 HR6.out (by omega) HIN.out).mono ?_
      rintro e w4 ⟨rfl, hb4⟩
      rw [HRR.out]
      go_wp2_with fail
      go_ret
      exact ⟨rfl, after_ hBw hb4⟩
end Go.Proofs.YtihepapjopcagaaGreatDoor
end
