/- A bundle of texts: TerA. -/
import Derived.Test.YtciolgmljpamlaaGreatDoorC02
import Derived.Test.YtciolgmljpamlaaGreatDoorC09
import Derived.Test.YtciolgmljpamlaaGreatDoorProg
import Derived.RegionTactic
import Derived.BigRegion
section
/- Layer 10: the small functions of terrain. -/
namespace Go.Proofs.YtciolgmljpamlaaGreatDoor
open Go Go.RowKit
set_option maxRecDepth 100000
abbrev tv (W H : Int) (GA PA : Option Addr) (gl gc pl pc : Nat) : Value := .agg #[.int .i64 W, .int .i64 H, .slice GA gl gc, .slice PA pl pc]
abbrev cv (x y : Int) : Value := .agg #[.int .i64 x, .int .i64 y]
set_option maxHeartbeats 1000000 in
theorem within_any (v lo hi : Int) (w : World) : Calls Tryz.prog 96 #[.int .i64 v, .int .i64 lo, .int .i64 hi] w fun e w' => e = .returned (.bool (M.isIn v lo hi)) ∧ w = w' := by
  go_enter Tryz.func96, Tryz.ntmps96
  go_wp2_with fail
  all_goals
    go_ret
    exact ⟨ret_bool (by unfold M.isIn; rw [Bool.eq_iff_iff]; simp; omega), rfl⟩
theorem M.allIn_drop {xs : List Int} {lo hi : Int} {k : Nat} (hk : k < xs.length) : M.allIn (xs.drop k) lo hi = (M.isIn xs[k] lo hi && M.allIn (xs.drop (k + 1)) lo hi) := by
  unfold M.allIn
  rw [List.drop_eq_getElem_cons hk, List.all_cons]
set_option maxHeartbeats 1000000 in
theorem allWithin_any (A : Option Addr) (c : Nat) (xs : List Int) (lo hi : Int) (w : World) (B : Nat) (ha : Sl 1 icell w B A xs) (hl : xs.length ≤ 9223372036854775807) :
    Calls Tryz.prog 127 #[.slice A xs.length c, .int .i64 lo, .int .i64 hi] w fun e w' => e = .returned (.bool (M.allIn xs lo hi)) ∧ w = w' := by
  go_enter Tryz.func127, Tryz.ntmps127
  go_wp2_with fail
  go_loopw [8, 11] (fun _ i wr => ∃ k : Nat, k ≤ xs.length ∧ i = .int .i64 k ∧ wr = w ∧ Hid (M.allIn xs lo hi = M.allIn (xs.drop k) lo hi)) (fun _ i _ => xs.length - (intOf i).toNat)
  case atStart => exact ⟨0, Nat.zero_le _, rfl, rfl, Lib.hid rfl⟩
  case round =>
    obtain ⟨k, hk, rfl, rfl, HE⟩ := hrel
    by_cases hlt : k < xs.length
    · obtain ⟨ad, rfl, hab, da⟩ := ha.int_at hlt
      have HS := Lib.hid (HE.out.trans (M.allIn_drop hlt))
      generalize xs[k] = y at *
      go_wp2_with fail
      refine (within_any y lo hi wr).mono ?_
      rintro e w1 ⟨rfl, rfl⟩
      cases hi' : M.isIn y lo hi with
      | true =>
        have HS2 : Hid (M.allIn xs lo hi = M.allIn (xs.drop (k + 1)) lo hi) := Lib.hid (by rw [HS.out, hi', Bool.true_and])
        go_wp2_with fail
        go_roundw
        case rel => exact ⟨k + 1, hlt, by go_num, trivial, HS2⟩
        case measure => simp [intOf]; omega
      | false =>
        have HS2 : Hid (false = M.allIn xs lo hi) := Lib.hid (by rw [HS.out, hi', Bool.false_and])
        go_wp2_with fail
        go_ret
        exact ⟨ret_bool HS2.out, rfl⟩
    · obtain rfl : k = xs.length := by omega
      have HS2 : Hid (true = M.allIn xs lo hi) := Lib.hid (by rw [HE.out, List.drop_length]; rfl)
      go_wp2_with fail
      go_ret
      exact ⟨ret_bool HS2.out, rfl⟩
end Go.Proofs.YtciolgmljpamlaaGreatDoor
/- Layer 10: Valid, inside, place, divide, distance. -/
namespace Go.Proofs.YtciolgmljpamlaaGreatDoor
open Go Go.RowKit
set_option maxRecDepth 100000
set_option maxHeartbeats 2000000 in
theorem tvalid_any (W H : Int) (GA PA : Option Addr) (gc pc : Nat) (G P : List Int) (w : World) (hg : Sl 1 icell w w.heap.size GA G) (hp : Sl 1 icell w w.heap.size PA P) (hgl : G.length ≤ 9223372036854775807) (hpl : P.length ≤ 9223372036854775807) :
    Calls Tryz.prog 95 #[tv W H GA PA G.length gc P.length pc] w fun e w' => e = .returned (.bool (M.tvalid W H G P)) ∧ Below w.heap.size w w' := by
  have hB0 := (Below.refl w.heap.size w).alloc (Nat.le_refl _) (.cells #[.int .i64 W, .int .i64 H, .slice GA G.length gc, .slice PA P.length pc] 24)
  have hg0 := hg.alloc (Nat.le_refl _) (.cells #[.int .i64 W, .int .i64 H, .slice GA G.length gc, .slice PA P.length pc] 24)
  have hp0 := hp.alloc (Nat.le_refl _) (.cells #[.int .i64 W, .int .i64 H, .slice GA G.length gc, .slice PA P.length pc] 24)
  obtain ⟨r, hr⟩ : ∃ r, M.tvalid W H G P = r := ⟨_, rfl⟩
  have HR := Lib.hid hr
  rw [hr]
  clear hr
  go_enter Tryz.func95, Tryz.ntmps95
  go_wp2_with fail
  refine (within_any W 1 64 _).mono ?_
  rintro e w1 ⟨rfl, rfl⟩
  cases h1 : M.isIn W 1 64 with
  | false =>
    have HR2 : Hid (false = r) := Lib.hid (by rw [← HR.out]; unfold M.tvalid; rw [h1]; rfl)
    go_wp2_with fail
    go_ret
    exact ⟨ret_bool HR2.out, hB0⟩
  | true =>
    go_wp2_with fail
    refine (within_any H 1 64 _).mono ?_
    rintro e w1 ⟨rfl, rfl⟩
    cases h2 : M.isIn H 1 64 with
    | false =>
      have HR2 : Hid (false = r) := Lib.hid (by rw [← HR.out]; unfold M.tvalid; rw [h1, h2]; rfl)
      go_wp2_with fail
      go_ret
      exact ⟨ret_bool HR2.out, hB0⟩
    | true =>
      obtain ⟨a1, a2⟩ := M.isIn_iff.1 h1
      obtain ⟨a3, a4⟩ := M.isIn_iff.1 h2
      have hm1 : 1 ≤ W * H := by
        have := Int.mul_le_mul a1 a3 (by omega) (by omega)
        omega
      have hm2 : W * H ≤ 4096 := by
        have := Int.mul_le_mul a2 a4 (by omega) (by omega)
        omega
      obtain ⟨n, hn⟩ : ∃ n, W * H = n := ⟨_, rfl⟩
      rw [hn] at hm1 hm2
      by_cases h3 : (G.length : Int) = n
      · by_cases h4 : (P.length : Int) = n
        · have HR3 : Hid (r = (M.allIn G 0 9000 && M.allIn P 0 1000000)) := Lib.hid (by rw [← HR.out]; unfold M.tvalid; rw [h1, h2, hn]; simp [h3, h4])
          go_wp2_with fail
          refine (allWithin_any GA gc G 0 9000 _ _ hg0 hgl).mono ?_
          rintro e w1 ⟨rfl, rfl⟩
          cases h5 : M.allIn G 0 9000 with
          | false =>
            have HR2 : Hid (false = r) := Lib.hid (by rw [HR3.out, h5, Bool.false_and])
            go_wp2_with fail
            go_ret
            exact ⟨ret_bool HR2.out, hB0⟩
          | true =>
            go_wp2_with fail
            refine (allWithin_any PA pc P 0 1000000 _ _ hp0 hpl).mono ?_
            rintro e w1 ⟨rfl, rfl⟩
            have HR2 : Hid (M.allIn P 0 1000000 = r) := Lib.hid (by rw [HR3.out, h5, Bool.true_and])
            generalize M.allIn P 0 1000000 = q at *
            go_wp2_with fail
            go_ret
            exact ⟨ret_bool HR2.out, hB0⟩
        · have HR2 : Hid (false = r) := Lib.hid (by rw [← HR.out]; unfold M.tvalid; rw [hn]; simp [h4])
          go_wp2_with fail
          go_ret
          exact ⟨ret_bool HR2.out, hB0⟩
      · have HR2 : Hid (false = r) := Lib.hid (by rw [← HR.out]; unfold M.tvalid; rw [hn]; simp [h3])
        go_wp2_with fail
        go_ret
        exact ⟨ret_bool HR2.out, hB0⟩
end Go.Proofs.YtciolgmljpamlaaGreatDoor
/- Layer 10: inside, place, divide, distance. -/
namespace Go.Proofs.YtciolgmljpamlaaGreatDoor
open Go Go.RowKit
set_option maxRecDepth 100000
set_option maxHeartbeats 2000000 in
theorem inside_any (W H : Int) (GA PA : Option Addr) (gl gc pl pc : Nat) (x y : Int) (w : World) (hW : 1 ≤ W ∧ W ≤ 64) (hH : 1 ≤ H ∧ H ≤ 64) :
    Calls Tryz.prog 204 #[tv W H GA PA gl gc pl pc, cv x y] w fun e w' => e = .returned (.bool (M.inside W H x y)) ∧ Below w.heap.size w w' := by
  have hB0 := (Below.refl w.heap.size w).alloc (Nat.le_refl _) (.cells #[.int .i64 W, .int .i64 H, .slice GA gl gc, .slice PA pl pc] 24)
  have hB1 := hB0.alloc hB0.size (.cells #[.int .i64 x, .int .i64 y] 113)
  obtain ⟨r, hr⟩ : ∃ r, M.inside W H x y = r := ⟨_, rfl⟩
  have HR := Lib.hid hr
  rw [hr]
  clear hr
  go_enter Tryz.func204, Tryz.ntmps204
  go_wp2_with fail
  refine (within_any x 0 (W - 1) _).mono ?_
  rintro e w1 ⟨rfl, rfl⟩
  cases h1 : M.isIn x 0 (W - 1) with
  | false =>
    have HR2 : Hid (false = r) := Lib.hid (by rw [← HR.out]; unfold M.inside; rw [h1]; rfl)
    go_wp2_with fail
    go_ret
    exact ⟨ret_bool HR2.out, hB1⟩
  | true =>
    go_wp2_with fail
    refine (within_any y 0 (H - 1) _).mono ?_
    rintro e w1 ⟨rfl, rfl⟩
    have HR2 : Hid (M.isIn y 0 (H - 1) = r) := Lib.hid (by rw [← HR.out]; unfold M.inside; rw [h1]; rfl)
    generalize M.isIn y 0 (H - 1) = q at *
    go_wp2_with fail
    go_ret
    exact ⟨ret_bool HR2.out, hB1⟩
set_option maxHeartbeats 2000000 in
theorem place_any (W H : Int) (GA PA : Option Addr) (gl gc pl pc : Nat) (x y : Int) (w : World) (hW : 1 ≤ W ∧ W ≤ 64) (hH : 1 ≤ H ∧ H ≤ 64) (hx : 0 ≤ x ∧ x < W) (hy : 0 ≤ y ∧ y < H) :
    Calls Tryz.prog 209 #[tv W H GA PA gl gc pl pc, cv x y] w fun e w' => e = .returned (.int .i64 (y * W + x)) ∧ Below w.heap.size w w' := by
  have hB0 := (Below.refl w.heap.size w).alloc (Nat.le_refl _) (.cells #[.int .i64 W, .int .i64 H, .slice GA gl gc, .slice PA pl pc] 24)
  have hB1 := hB0.alloc hB0.size (.cells #[.int .i64 x, .int .i64 y] 113)
  obtain ⟨b1, b2, b3⟩ := M.place_bd hW hH hx hy
  clear b3
  generalize hp : y * W = p at *
  go_enter Tryz.func209, Tryz.ntmps209
  go_wp2_with fail
  go_ret
  exact ⟨rfl, hB1⟩
theorem M.floor_neg {a b : Int} (hb : 0 < b) (h : a.tmod b < 0) : a.tdiv b - 1 = a / b := by
  have h1 := Int.mul_tdiv_add_tmod a b
  have h2 := Int.lt_tmod_of_pos a hb
  refine ((Int.ediv_emod_unique (a := a) (r := a.tmod b + b) (q := a.tdiv b - 1) hb).2 ⟨?_, by omega, by omega⟩).1.symm
  rw [Int.mul_sub, Int.mul_one]
  omega
theorem M.floor_pos {a b : Int} (hb : 0 < b) (h : 0 ≤ a.tmod b) : a.tdiv b = a / b := by
  have h1 := Int.mul_tdiv_add_tmod a b
  have h2 := Int.tmod_lt_of_pos a hb
  exact ((Int.ediv_emod_unique (a := a) (r := a.tmod b) (q := a.tdiv b) hb).2 ⟨by omega, by omega, by omega⟩).1.symm
theorem M.floor_bd {a b c : Int} (ha : -c ≤ a ∧ a ≤ c) (hb : 0 < b) : -c ≤ a / b ∧ a / b ≤ c := by
  constructor
  · apply Int.le_ediv_of_mul_le hb
    have : -c * b ≤ -c * 1 := Int.mul_le_mul_of_nonpos_left (by omega) (by omega)
    omega
  · apply Int.ediv_le_of_le_mul hb
    have : c * 1 ≤ c * b := Int.mul_le_mul_of_nonneg_left (by omega) (by omega)
    omega
set_option maxHeartbeats 1000000 in
theorem divide_any (a b : Int) (w : World) (ha : -1000000 ≤ a ∧ a ≤ 1000000) (hb : 1 ≤ b ∧ b ≤ 1000000) :
    Calls Tryz.prog 211 #[.int .i64 a, .int .i64 b] w fun e w' => e = .returned (.int .i64 (a / b)) ∧ w = w' := by
  have hbd := M.floor_bd ha (show 0 < b by omega)
  by_cases h : a.tmod b < 0
  · have h1 := M.floor_neg (show 0 < b by omega) h
    obtain ⟨q, hq⟩ : ∃ q, a.tdiv b = q := ⟨_, rfl⟩
    obtain ⟨r, hr⟩ : ∃ r, a.tmod b = r := ⟨_, rfl⟩
    rw [hq] at h1
    rw [hr] at h
    rw [← h1] at hbd ⊢
    clear h1
    go_enter Tryz.func211, Tryz.ntmps211
    go_wp2_with fail
    go_ret
    exact ⟨rfl, rfl⟩
  · have h1 := M.floor_pos (show 0 < b by omega) (show 0 ≤ a.tmod b by omega)
    obtain ⟨q, hq⟩ : ∃ q, a.tdiv b = q := ⟨_, rfl⟩
    obtain ⟨r, hr⟩ : ∃ r, a.tmod b = r := ⟨_, rfl⟩
    rw [hq] at h1
    rw [hr] at h
    rw [← h1] at hbd ⊢
    clear h1
    go_enter Tryz.func211, Tryz.ntmps211
    go_wp2_with fail
    go_ret
    exact ⟨rfl, rfl⟩
set_option maxHeartbeats 1000000 in
theorem distance_any (a b : Int) (w : World) (ha : 0 ≤ a ∧ a ≤ 1000000) (hb : 0 ≤ b ∧ b ≤ 1000000) :
    Calls Tryz.prog 210 #[.int .i64 a, .int .i64 b] w fun e w' => e = .returned (.int .i64 (max (a - b) (b - a))) ∧ w = w' := by
  go_enter Tryz.func210, Tryz.ntmps210
  go_wp2_with fail
  all_goals
    go_ret
    exact ⟨ret_int (by omega), rfl⟩
end Go.Proofs.YtciolgmljpamlaaGreatDoor
end
