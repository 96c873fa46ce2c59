/- A bundle of texts: TerA, Line, Box. -/
import Derived.Test.YtihepapjopcagaaGreatDoorB02
import Derived.Test.YtihepapjopcagaaGreatDoorB01
import Derived.Test.YtihepapjopcagaaGreatDoorProg
import Derived.RegionTactic
import Derived.BigRegion
import Derived.Deep.QuietTactic
import Derived.Deep.DeepBigQuietO
section
/- Layer 10: the small functions of terrain. -/
namespace Go.Proofs.YtihepapjopcagaaGreatDoor
open Go Go.RowKit
set_option maxRecDepth 100000

abbrev tv (W H : Int) (GA PA : Option Addr) (gl gc pl pc : Nat) : Value := .agg #[.int .i64 W, .int .i64 H, .slice GA gl gc, .slice PA pl pc]
abbrev cv (x y : Int) : Value := .agg #[.int .i64 x, .int .i64 y]

set_option maxHeartbeats 1000000 in
theorem within_any (v lo hi : Int) (w : World) : Calls Tryz.prog 62 #[.int .i64 v, .int .i64 lo, .int .i64 hi] w fun e w' => e = .returned (.bool (M.isIn v lo hi)) ∧ w = w' := by
  go_enter Tryz.func62, Tryz.ntmps62
  go_wp2_with fail
  all_goals
    go_ret
    exact ⟨ret_bool (by unfold M.isIn; rw [Bool.eq_iff_iff]; simp; omega), rfl⟩

theorem M.allIn_drop {xs : List Int} {lo hi : Int} {k : Nat} (hk : k < xs.length) : M.allIn (xs.drop k) lo hi = (M.isIn xs[k] lo hi && M.allIn (xs.drop (k + 1)) lo hi) := by
  unfold M.allIn
  rw [List.drop_eq_getElem_cons hk, List.all_cons]

set_option maxHeartbeats 1000000 in
theorem allWithin_any (A : Option Addr) (c : Nat) (xs : List Int) (lo hi : Int) (w : World) (B : Nat) (ha : Sl 1 icell w B A xs) (hl : xs.length ≤ 9223372036854775806) :
    Calls Tryz.prog 78 #[.slice A xs.length c, .int .i64 lo, .int .i64 hi] w fun e w' => e = .returned (.bool (M.allIn xs lo hi)) ∧ w = w' := by
  go_enter Tryz.func78, Tryz.ntmps78
  go_wp2_with fail
  go_loopw [8, 11] (fun _ i wr => ∃ k : Nat, k ≤ xs.length ∧ i = .int .i64 k ∧ wr = w ∧ Hid (M.allIn xs lo hi = M.allIn (xs.drop k) lo hi)) (fun _ i _ => xs.length - (intOf i).toNat)
  case atStart => exact ⟨0, Nat.zero_le _, rfl, rfl, Lib.hid rfl⟩
  case round =>
    obtain ⟨k, hk, rfl, rfl, HE⟩ := hrel
    by_cases hlt : k < xs.length
    · obtain ⟨ad, rfl, hab, da⟩ := ha.int_at hlt
      have HS := Lib.hid (HE.out.trans (M.allIn_drop hlt))
      generalize xs[k] = y at *
      go_wp2_with fail
      refine (within_any y lo hi wr).mono ?_
      rintro e w1 ⟨rfl, rfl⟩
      cases hi' : M.isIn y lo hi with
      | true =>
        have HS2 : Hid (M.allIn xs lo hi = M.allIn (xs.drop (k + 1)) lo hi) := Lib.hid (by rw [HS.out, hi', Bool.true_and])
        go_wp2_with fail
        go_roundw
        case rel => exact ⟨k + 1, hlt, by go_num, trivial, HS2⟩
        case measure => simp [intOf]; omega
      | false =>
        have HS2 : Hid (false = M.allIn xs lo hi) := Lib.hid (by rw [HS.out, hi', Bool.false_and])
        go_wp2_with fail
        go_ret
        exact ⟨ret_bool HS2.out, rfl⟩
    · obtain rfl : k = xs.length := by omega
      have HS2 : Hid (true = M.allIn xs lo hi) := Lib.hid (by rw [HE.out, List.drop_length]; rfl)
      go_wp2_with fail
      go_ret
      exact ⟨ret_bool HS2.out, rfl⟩
end Go.Proofs.YtihepapjopcagaaGreatDoor

/- Layer 10: Valid, inside, place, divide, distance. -/
namespace Go.Proofs.YtihepapjopcagaaGreatDoor
open Go Go.RowKit
set_option maxRecDepth 100000

set_option maxHeartbeats 2000000 in
theorem tvalid_any (W H : Int) (GA PA : Option Addr) (gc pc : Nat) (G P : List Int) (w : World) (hg : Sl 1 icell w w.heap.size GA G) (hp : Sl 1 icell w w.heap.size PA P) (hgl : G.length ≤ 9223372036854775806) (hpl : P.length ≤ 9223372036854775806) :
    Calls Tryz.prog 55 #[tv W H GA PA G.length gc P.length pc] w fun e w' => e = .returned (.bool (M.tvalid W H G P)) ∧ Below w.heap.size w w' := by
  have hB0 := (Below.refl w.heap.size w).alloc (Nat.le_refl _) (.cells #[.int .i64 W, .int .i64 H, .slice GA G.length gc, .slice PA P.length pc] 30)
  have hg0 := hg.alloc (Nat.le_refl _) (.cells #[.int .i64 W, .int .i64 H, .slice GA G.length gc, .slice PA P.length pc] 30)
  have hp0 := hp.alloc (Nat.le_refl _) (.cells #[.int .i64 W, .int .i64 H, .slice GA G.length gc, .slice PA P.length pc] 30)
  obtain ⟨r, hr⟩ : ∃ r, M.tvalid W H G P = r := ⟨_, rfl⟩
  have HR := Lib.hid hr
  rw [hr]
  clear hr
  go_enter Tryz.func55, Tryz.ntmps55
  go_wp2_with fail
  refine (within_any W 1 64 _).mono ?_
  rintro e w1 ⟨rfl, rfl⟩
  cases h1 : M.isIn W 1 64 with
  | false =>
    have HR2 : Hid (false = r) := Lib.hid (by rw [← HR.out]; unfold M.tvalid; rw [h1]; rfl)
    go_wp2_with fail
    go_ret
    exact ⟨ret_bool HR2.out, hB0⟩
  | true =>
    go_wp2_with fail
    refine (within_any H 1 64 _).mono ?_
    rintro e w1 ⟨rfl, rfl⟩
    cases h2 : M.isIn H 1 64 with
    | false =>
      have HR2 : Hid (false = r) := Lib.hid (by rw [← HR.out]; unfold M.tvalid; rw [h1, h2]; rfl)
      go_wp2_with fail
      go_ret
      exact ⟨ret_bool HR2.out, hB0⟩
    | true =>
      obtain ⟨a1, a2⟩ := M.isIn_iff.1 h1
      obtain ⟨a3, a4⟩ := M.isIn_iff.1 h2
      have hm1 : 1 ≤ W * H := by
        have := Int.mul_le_mul a1 a3 (by omega) (by omega)
        omega
      have hm2 : W * H ≤ 4096 := by
        have := Int.mul_le_mul a2 a4 (by omega) (by omega)
        omega
      obtain ⟨n, hn⟩ : ∃ n, W * H = n := ⟨_, rfl⟩
      rw [hn] at hm1 hm2
      by_cases h3 : (G.length : Int) = n
      · by_cases h4 : (P.length : Int) = n
        · have HR3 : Hid (r = (M.allIn G 0 9000 && M.allIn P 0 1000000)) := Lib.hid (by rw [← HR.out]; unfold M.tvalid; rw [h1, h2, hn]; simp [h3, h4])
          go_wp2_with fail
          refine (allWithin_any GA gc G 0 9000 _ _ hg0 hgl).mono ?_
          rintro e w1 ⟨rfl, rfl⟩
          cases h5 : M.allIn G 0 9000 with
          | false =>
            have HR2 : Hid (false = r) := Lib.hid (by rw [HR3.out, h5, Bool.false_and])
            go_wp2_with fail
            go_ret
            exact ⟨ret_bool HR2.out, hB0⟩
          | true =>
            go_wp2_with fail
            refine (allWithin_any PA pc P 0 1000000 _ _ hp0 hpl).mono ?_
            rintro e w1 ⟨rfl, rfl⟩
            have HR2 : Hid (M.allIn P 0 1000000 = r) := Lib.hid (by rw [HR3.out, h5, Bool.true_and])
            generalize M.allIn P 0 1000000 = q at *
            go_wp2_with fail
            go_ret
            exact ⟨ret_bool HR2.out, hB0⟩
        · have HR2 : Hid (false = r) := Lib.hid (by rw [← HR.out]; unfold M.tvalid; rw [hn]; simp [h4])
          go_wp2_with fail
          go_ret
          exact ⟨ret_bool HR2.out, hB0⟩
      · have HR2 : Hid (false = r) := Lib.hid (by rw [← HR.out]; unfold M.tvalid; rw [hn]; simp [h3])
        go_wp2_with fail
        go_ret
        exact ⟨ret_bool HR2.out, hB0⟩
end Go.Proofs.YtihepapjopcagaaGreatDoor

/- Layer 10: inside, place, divide, distance. -/
namespace Go.Proofs.YtihepapjopcagaaGreatDoor
open Go Go.RowKit
set_option maxRecDepth 100000

set_option maxHeartbeats 2000000 in
theorem inside_any (W H : Int) (GA PA : Option Addr) (gl gc pl pc : Nat) (x y : Int) (w : World) (hW : 1 ≤ W ∧ W ≤ 64) (hH : 1 ≤ H ∧ H ≤ 64) :
    Calls Tryz.prog 71 #[tv W H GA PA gl gc pl pc, cv x y] w fun e w' => e = .returned (.bool (M.inside W H x y)) ∧ Below w.heap.size w w' := by
  have hB0 := (Below.refl w.heap.size w).alloc (Nat.le_refl _) (.cells #[.int .i64 W, .int .i64 H, .slice GA gl gc, .slice PA pl pc] 30)
  have hB1 := hB0.alloc hB0.size (.cells #[.int .i64 x, .int .i64 y] 36)
  obtain ⟨r, hr⟩ : ∃ r, M.inside W H x y = r := ⟨_, rfl⟩
  have HR := Lib.hid hr
  rw [hr]
  clear hr
  go_enter Tryz.func71, Tryz.ntmps71
  go_wp2_with fail
  refine (within_any x 0 (W - 1) _).mono ?_
  rintro e w1 ⟨rfl, rfl⟩
  cases h1 : M.isIn x 0 (W - 1) with
  | false =>
    have HR2 : Hid (false = r) := Lib.hid (by rw [← HR.out]; unfold M.inside; rw [h1]; rfl)
    go_wp2_with fail
    go_ret
    exact ⟨ret_bool HR2.out, hB1⟩
  | true =>
    go_wp2_with fail
    refine (within_any y 0 (H - 1) _).mono ?_
    rintro e w1 ⟨rfl, rfl⟩
    have HR2 : Hid (M.isIn y 0 (H - 1) = r) := Lib.hid (by rw [← HR.out]; unfold M.inside; rw [h1]; rfl)
    generalize M.isIn y 0 (H - 1) = q at *
    go_wp2_with fail
    go_ret
    exact ⟨ret_bool HR2.out, hB1⟩

set_option maxHeartbeats 2000000 in
theorem place_any (W H : Int) (GA PA : Option Addr) (gl gc pl pc : Nat) (x y : Int) (w : World) (hW : 1 ≤ W ∧ W ≤ 64) (hH : 1 ≤ H ∧ H ≤ 64) (hx : 0 ≤ x ∧ x < W) (hy : 0 ≤ y ∧ y < H) :
    Calls Tryz.prog 123 #[tv W H GA PA gl gc pl pc, cv x y] w fun e w' => e = .returned (.int .i64 (y * W + x)) ∧ Below w.heap.size w w' := by
  have hB0 := (Below.refl w.heap.size w).alloc (Nat.le_refl _) (.cells #[.int .i64 W, .int .i64 H, .slice GA gl gc, .slice PA pl pc] 30)
  have hB1 := hB0.alloc hB0.size (.cells #[.int .i64 x, .int .i64 y] 36)
  obtain ⟨b1, b2, b3⟩ := M.place_bd hW hH hx hy
  clear b3
  generalize hp : y * W = p at *
  go_enter Tryz.func123, Tryz.ntmps123
  go_wp2_with fail
  go_ret
  exact ⟨rfl, hB1⟩

theorem M.floor_neg {a b : Int} (hb : 0 < b) (h : a.tmod b < 0) : a.tdiv b - 1 = a / b := by
  have h1 := Int.mul_tdiv_add_tmod a b
  have h2 := Int.lt_tmod_of_pos a hb
  refine ((Int.ediv_emod_unique (a := a) (r := a.tmod b + b) (q := a.tdiv b - 1) hb).2 ⟨?_, by omega, by omega⟩).1.symm
  rw [Int.mul_sub, Int.mul_one]
  omega
theorem M.floor_pos {a b : Int} (hb : 0 < b) (h : 0 ≤ a.tmod b) : a.tdiv b = a / b := by
  have h1 := Int.mul_tdiv_add_tmod a b
  have h2 := Int.tmod_lt_of_pos a hb
  exact ((Int.ediv_emod_unique (a := a) (r := a.tmod b) (q := a.tdiv b) hb).2 ⟨by omega, by omega, by omega⟩).1.symm
theorem M.floor_bd {a b c : Int} (ha : -c ≤ a ∧ a ≤ c) (hb : 0 < b) : -c ≤ a / b ∧ a / b ≤ c := by
  constructor
  · apply Int.le_ediv_of_mul_le hb
    have : -c * b ≤ -c * 1 := Int.mul_le_mul_of_nonpos_left (by omega) (by omega)
    omega
  · apply Int.ediv_le_of_le_mul hb
    have : c * 1 ≤ c * b := Int.mul_le_mul_of_nonneg_left (by omega) (by omega)
    omega

set_option maxHeartbeats 1000000 in
theorem divide_any (a b : Int) (w : World) (ha : -1000000 ≤ a ∧ a ≤ 1000000) (hb : 1 ≤ b ∧ b ≤ 1000000) :
    Calls Tryz.prog 125 #[.int .i64 a, .int .i64 b] w fun e w' => e = .returned (.int .i64 (a / b)) ∧ w = w' := by
  have hbd := M.floor_bd ha (show 0 < b by omega)
  by_cases h : a.tmod b < 0
  · have h1 := M.floor_neg (show 0 < b by omega) h
    obtain ⟨q, hq⟩ : ∃ q, a.tdiv b = q := ⟨_, rfl⟩
    obtain ⟨r, hr⟩ : ∃ r, a.tmod b = r := ⟨_, rfl⟩
    rw [hq] at h1
    rw [hr] at h
    rw [← h1] at hbd ⊢
    clear h1
    go_enter Tryz.func125, Tryz.ntmps125
    go_wp2_with fail
    go_ret
    exact ⟨rfl, rfl⟩
  · have h1 := M.floor_pos (show 0 < b by omega) (show 0 ≤ a.tmod b by omega)
    obtain ⟨q, hq⟩ : ∃ q, a.tdiv b = q := ⟨_, rfl⟩
    obtain ⟨r, hr⟩ : ∃ r, a.tmod b = r := ⟨_, rfl⟩
    rw [hq] at h1
    rw [hr] at h
    rw [← h1] at hbd ⊢
    clear h1
    go_enter Tryz.func125, Tryz.ntmps125
    go_wp2_with fail
    go_ret
    exact ⟨rfl, rfl⟩

set_option maxHeartbeats 1000000 in
theorem distance_any (a b : Int) (w : World) (ha : 0 ≤ a ∧ a ≤ 1000000) (hb : 0 ≤ b ∧ b ≤ 1000000) :
    Calls Tryz.prog 124 #[.int .i64 a, .int .i64 b] w fun e w' => e = .returned (.int .i64 (max (a - b) (b - a))) ∧ w = w' := by
  go_enter Tryz.func124, Tryz.ntmps124
  go_wp2_with fail
  all_goals
    go_ret
    exact ⟨ret_int (by omega), rfl⟩
end Go.Proofs.YtihepapjopcagaaGreatDoor
end

/- Layer 10: Line. -/
section
namespace Go.Proofs.YtihepapjopcagaaGreatDoor
open Go Go.RowKit
set_option maxRecDepth 100000

def ccell (p : Int × Int) (j : Nat) : Value := if j = 0 then .int .i64 p.1 else .int .i64 p.2
theorem c_one (x : Int × Int) (j : Nat) : (ccell x j).oneCell' = true := by unfold ccell; split <;> rfl
theorem cellInfo : (Tryz.prog.info? 36).map (fun i => (i.zero, i.size, i.bytes)) = some (some (.agg #[.int .i64 0, .int .i64 0]), 2, 16) := by kernel_rfl

set_option maxHeartbeats 4000000 in
theorem line_ok (ax ay bx by' : Int) (w : World) (h1 : M.c63 ax) (h2 : M.c63 ay) (h3 : M.c63 bx) (h4 : M.c63 by') :
    Calls Tryz.prog 95 #[cv ax ay, cv bx by'] w (RetL 2 ccell w (M.line ax ay bx by') 0) := by
  have hB0 := (Below.refl w.heap.size w).alloc (Nat.le_refl _) (.cells #[.int .i64 ax, .int .i64 ay] 36)
  have hB1 := hB0.alloc hB0.size (.cells #[.int .i64 bx, .int .i64 by'] 36)
  obtain ⟨i0, hi, hz0, hz1, hz2⟩ := info_parts cellInfo
  have Hi := Lib.hid hi; have Hz0 := Lib.hid hz0; have Hz1 := Lib.hid hz1; have Hz2 := Lib.hid hz2
  clear hi hz0 hz1 hz2
  have i1 := Lib.hid (M.isIn63 h1); have i2 := Lib.hid (M.isIn63 h2); have i3 := Lib.hid (M.isIn63 h3); have i4 := Lib.hid (M.isIn63 h4)
  have hsb := M.span_bd h1 h2 h3 h4
  have k0 := Lib.hid ((Below.heap_alloc (w.alloc (.cells #[.int .i64 ax, .int .i64 ay] 36)) (.cells #[.int .i64 bx, .int .i64 by'] 36) w.heap.size (by simp)).trans (heap_alloc_new w (.cells #[.int .i64 ax, .int .i64 ay] 36)))
  have k1 := Lib.hid (heap_alloc_new (w.alloc (.cells #[.int .i64 ax, .int .i64 ay] 36)) (.cells #[.int .i64 bx, .int .i64 by'] 36))
  have s0 : Hid (((w.alloc (.cells #[.int .i64 ax, .int .i64 ay] 36)).alloc (.cells #[.int .i64 bx, .int .i64 by'] 36)).heap.size = w.heap.size + 2) := Lib.hid (by simp)
  rw [show (w.alloc (.cells #[.int .i64 ax, .int .i64 ay] 36)).heap.size = w.heap.size + 1 by simp] at k1
  go_enter Tryz.func95, Tryz.ntmps95
  go_wp2_with fail
  generalize (w.alloc (.cells #[.int .i64 ax, .int .i64 ay] 36)).alloc (.cells #[.int .i64 bx, .int .i64 by'] 36) = W at *
  go_loopw [7, 14] (fun _ i wr => (i = .int .i64 0 ∨ i = .int .i64 1 ∨ i = .int .i64 2) ∧ Below W.heap.size W wr) (fun _ i _ => 2 - (intOf i).toNat)
  case atStart => exact ⟨.inl rfl, Below.refl _ _⟩
  case round =>
    have j0 : ∀ w, (Instr.index 154 (.agg #[.int .i64 ax, .int .i64 ay, .int .i64 bx, .int .i64 by']) (.int .i64 0)).run Tryz.prog w = .ok (.agg #[.int .i64 ax, .int .i64 ay]) w := fun _ => by kernel_rfl
    have j1 : ∀ w, (Instr.index 154 (.agg #[.int .i64 ax, .int .i64 ay, .int .i64 bx, .int .i64 by']) (.int .i64 1)).run Tryz.prog w = .ok (.agg #[.int .i64 bx, .int .i64 by']) w := fun _ => by kernel_rfl
    obtain ⟨rfl | rfl | rfl, hB⟩ := hrel
    · go_wp2_with fail
      refine (within_any ax 0 63 _).mono ?_
      rintro e w1 ⟨rfl, rfl⟩
      rw [i1.out]
      go_wp2_with fail
      refine (within_any ay 0 63 _).mono ?_
      rintro e w1 ⟨rfl, rfl⟩
      rw [i2.out]
      go_wp2_with fail
      go_roundw
      case rel => exact ⟨.inr (.inl rfl), hB.alloc hB.size _⟩
      case measure => simp [intOf]
    · go_wp2_with fail
      refine (within_any bx 0 63 _).mono ?_
      rintro e w1 ⟨rfl, rfl⟩
      rw [i3.out]
      go_wp2_with fail
      refine (within_any by' 0 63 _).mono ?_
      rintro e w1 ⟨rfl, rfl⟩
      rw [i4.out]
      go_wp2_with fail
      go_roundw
      case rel => exact ⟨.inr (.inr rfl), hB.alloc hB.size _⟩
      case measure => simp [intOf]
    · have kk0 := Lib.hid ((hB.block w.heap.size (by have := s0.out; omega)).trans k0.out)
      have kk1 := Lib.hid ((hB.block (w.heap.size + 1) (by have := s0.out; omega)).trans k1.out)
      have c0 : wr.cell? ⟨w.heap.size, 0, none⟩ = some (.int .i64 ax) := by rw [cell_of_row _ _ _ _ _ _ kk0.out]; rfl
      have c1 : wr.cell? ⟨w.heap.size, 1, none⟩ = some (.int .i64 ay) := by rw [cell_of_row _ _ _ _ _ _ kk0.out]; rfl
      have c2 : wr.cell? ⟨w.heap.size + 1, 0, none⟩ = some (.int .i64 bx) := by rw [cell_of_row _ _ _ _ _ _ kk1.out]; rfl
      have c3 : wr.cell? ⟨w.heap.size + 1, 1, none⟩ = some (.int .i64 by') := by rw [cell_of_row _ _ _ _ _ _ kk1.out]; rfl
      have hb2 : Below w.heap.size w wr := hB1.trans (hB.mono hB1.size)
      have hs2 : w.heap.size + 2 ≤ wr.heap.size := by have := hB.size; have := s0.out; omega
      have l0 : w.heap.size < wr.heap.size := by omega
      have l1 : w.heap.size + 1 < wr.heap.size := by omega
      clear j0 j1 kk0 kk1 k0 k1 hB hB0 hB1 i1 i2 i3 i4 s0
      go_wp2_with fail
      refine wp_region_kept wr.heap.size wr (by kernel_rfl) (by kernel_rfl) (Below.refl _ _) ?_
      repeat (go_big_quiet_step ((first | (go_at_call 124; exact Kept.same (distance_any _ _ _ (by unfold M.c63 at *; omega) (by unfold M.c63 at *; omega))))))
      rw [M.span_if ax ay bx by']
      refine wpQuiet_nil ?_
      rintro V ⟨⟨_, hbV⟩, rfl⟩
      rw [← hbV.cell (p := ⟨w.heap.size, 0, none⟩) l0] at c0
      rw [← hbV.cell (p := ⟨w.heap.size, 1, none⟩) l0] at c1
      rw [← hbV.cell (p := ⟨w.heap.size + 1, 0, none⟩) l1] at c2
      rw [← hbV.cell (p := ⟨w.heap.size + 1, 1, none⟩) l1] at c3
      have hb3 := after_ hb2 hbV
      replace l0 : w.heap.size < V.heap.size := Nat.lt_of_lt_of_le l0 hbV.size
      replace l1 : w.heap.size + 1 < V.heap.size := Nat.lt_of_lt_of_le l1 hbV.size
      clear hb2 hbV hs2
      have HL : Hid ((M.line ax ay bx by').length = (M.span ax ay bx by').toNat - 1) := Lib.hid (M.line_length ax ay bx by')
      have HA : Hid (∀ k (h : k < (M.line ax ay bx by').length), (M.line ax ay bx by')[k] = (M.pt ax bx (M.span ax ay bx by') ((k : Int) + 1), M.pt ay by' (M.span ax ay bx by') ((k : Int) + 1))) := Lib.hid (fun k h => by rw [M.line_at]; unfold M.lineAt; rw [Int.natCast_add]; rfl)
      generalize M.span ax ay bx by' = n at *
      generalize M.line ax ay bx by' = L at *
      go_wp2_with fail
      go_loopw [9, 10] (fun out i wr => ∃ k : Nat, k ≤ L.length ∧ i = .int .i64 ((k : Int) + 1) ∧ Below V.heap.size V wr ∧ wr.ownsRow V.heap.size 36 2 out k (flat 2 ccell (L.take k))) (fun _ i _ => 64 - (intOf i).toNat)
      case atStart => exact ⟨0, Nat.zero_le _, rfl, Below.refl _ _, own_nil _ _ _ _ _⟩
      case round =>
        obtain ⟨k, hk, rfl, hB, hown⟩ := hrel
        have hLl := HL.out
        by_cases hlt : k < L.length
        · have hkn : (k : Int) + 1 < n := by omega
          have d0 := (hB.cell (p := ⟨w.heap.size, 0, none⟩) l0).trans c0
          have d1 := (hB.cell (p := ⟨w.heap.size, 1, none⟩) l0).trans c1
          have d2 := (hB.cell (p := ⟨w.heap.size + 1, 0, none⟩) l1).trans c2
          have d3 := (hB.cell (p := ⟨w.heap.size + 1, 1, none⟩) l1).trans c3
          have m0 : w.heap.size < wr.heap.size := Nat.lt_of_lt_of_le l0 hB.size
          have m1 : w.heap.size + 1 < wr.heap.size := Nat.lt_of_lt_of_le l1 hB.size
          have HTk : Hid (L.take (k + 1) = L.take k ++ [L[k]]) := Lib.hid (List.take_succ_eq_append_getElem hlt)
          have ha := HA.out k hlt
          obtain ⟨y, hy⟩ : ∃ y, L[k] = y := ⟨_, rfl⟩
          rw [hy] at HTk ha
          unfold M.pt at ha
          have hpx := M.prod_bd (k := (k : Int) + 1) (d := bx - ax) (by omega) (by unfold M.c63 at *; omega)
          have hpy := M.prod_bd (k := (k : Int) + 1) (d := by' - ay) (by omega) (by unfold M.c63 at *; omega)
          obtain ⟨dx, hdx⟩ : ∃ d, bx - ax = d := ⟨_, rfl⟩
          obtain ⟨dy, hdy⟩ : ∃ d, by' - ay = d := ⟨_, rfl⟩
          have hdxb : -63 ≤ dx ∧ dx ≤ 63 := by unfold M.c63 at *; omega
          have hdyb : -63 ≤ dy ∧ dy ≤ 63 := by unfold M.c63 at *; omega
          rw [hdx] at hpx ha
          rw [hdy] at hpy ha
          obtain ⟨px, hpx'⟩ : ∃ p, 2 * ((k : Int) + 1) * dx = p := ⟨_, rfl⟩
          obtain ⟨py, hpy'⟩ : ∃ p, 2 * ((k : Int) + 1) * dy = p := ⟨_, rfl⟩
          rw [hpx'] at hpx ha
          rw [hpy'] at hpy ha
          have hqx := M.floor_bd (a := px + n) (b := 2 * n) (c := 8001) (by omega) (by omega)
          have hqy := M.floor_bd (a := py + n) (b := 2 * n) (c := 8001) (by omega) (by omega)
          have hax : 0 ≤ ax ∧ ax ≤ 63 := h1
          have hay : 0 ≤ ay ∧ ay ≤ 63 := h2
          have hbx : 0 ≤ bx ∧ bx ≤ 63 := h3
          have hby : 0 ≤ by' ∧ by' ≤ 63 := h4
          have HY := Lib.hid ha
          clear ha hy
          go_wp2_with fail
          refine wp_region_kept_tail1 34 wr.heap.size wr _ (by kernel_rfl) rfl rfl (by kernel_rfl) (by kernel_rfl) (by kernel_rfl) (fun _ _ _ _ h => h) (Below.refl _ _) ?_
          simp only [List.take_succ_cons, List.take_zero, List.drop_succ_cons, List.drop_zero]
          repeat (go_big_quiet_step ((go_at_call 125; exact Kept.same (divide_any _ _ _ (by omega) (by omega)))))
          refine wpQuiet_nil ?_
          rintro w2 ⟨⟨_, hb2⟩, rfl⟩
          have hown2 := own_below hown hb2
          have hB2 := after_ hB hb2
          have e := HY.out
          clear d0 d1 d2 d3 HY hown hpx' hpy' hdx hdy
          subst e
          go_wp2_with (at_builtin; refine wpList_push (w0 := V) (cell := ccell) (y := (ax + (px + n) / (2 * n), ay + (py + n) / (2 * n))) rfl _ _ _ rfl V.heap.size V.heap.size 36 i0 _ 16 Tryz.underlying109 Hi.out Hz0.out Hz1.out Hz2.out rfl (by decide) _ k _ rfl hown2 _ _ rfl _ rfl (c_one _) (by unfold maxLen; omega) (by omega) hB2.size (Nat.le_refl _) hB2 ?_; intro v' w' hown' hb' hg')
          go_roundw
          case rel => exact ⟨k + 1, by omega, by go_num, hb', by rw [HTk.out]; exact hown'⟩
          case measure => simp [intOf]; omega
        · have hkl : k = L.length := by omega
          have HK : Hid (L.take k = L) := Lib.hid (by rw [hkl, List.take_length])
          have hnk : n ≤ (k : Int) + 1 := by omega
          clear hkl hLl
          rw [HK.out] at hown
          go_wp2_with fail
          go_ret2
          exact RetL.of (by decide) hown (hb3.trans (hB.mono hb3.size))
end Go.Proofs.YtihepapjopcagaaGreatDoor
end

/- Boxed arguments and variables: a block that is known whole. -/
section
namespace Go.Proofs.YtihepapjopcagaaGreatDoor
open Go Go.RowKit

/-- The block b holds just these cells. -/
def Box (w : World) (b : Nat) (cs : Array Value) (t : TypeId) : Prop := w.heap[b]? = some (.cells cs t (0, 0))
section
variable {w w' : World} {b : Nat} {cs : Array Value} {t : TypeId}
theorem Box.lt (h : Box w b cs t) : b < w.heap.size := by
  unfold Box at h
  exact (Array.getElem?_eq_some_iff.1 h).1
theorem Box.cell (h : Box w b cs t) (i : Nat) {v : Value} (hv : cs[i]? = some v) : w.cell? ⟨b, i, none⟩ = some v := by rw [cell_of_row _ _ _ _ _ _ h]; exact hv
theorem Box.frozen (h : Box w b cs t) (i : Nat) : w.frozen? ⟨b, i, none⟩ = false := frozen_of_row _ _ _ _ _ h
theorem Box.new (w : World) (cs : Array Value) (t : TypeId) : Box (w.alloc (.cells cs t)) w.heap.size cs t := heap_alloc_new w _
theorem Box.alloc (h : Box w b cs t) (o : Obj) : Box (w.alloc o) b cs t := (Below.heap_alloc w o b h.lt).trans h
theorem Box.below (h : Box w b cs t) (hb : Below w.heap.size w w') : Box w' b cs t := (hb.block b h.lt).trans h
theorem Box.belowB {B : Nat} (h : Box w b cs t) (hb : Below B w w') (hB : b < B) : Box w' b cs t := (hb.block b hB).trans h
theorem Box.drewN (h : Box w b cs t) (n : Nat) : Box (w.drewN n) b cs t := h
theorem Box.grown (h : Box w b cs t) {row : Option Nat} (hg : w.grownBy w' row) (hne : some b ≠ row) : Box w' b cs t := (hg.block b h.lt hne).trans h
theorem Box.set_other (h : Box w b cs t) {p : Addr} (hp : b ≠ p.block) (v : Value) : Box (w.setCell p v) b cs t := (heap_setCell_other w p b v hp).trans h
theorem Box.set (h : Box w b cs t) (i : Nat) (v : Value) : Box (w.setCell ⟨b, i, none⟩ v) b (cs.setIfInBounds i v) t := heap_setCell_same w b i _ _ v h
theorem Box.c1 {x : Value} (h : Box w b #[x] t) : w.cell? ⟨b, 0, none⟩ = some x := h.cell 0 rfl
theorem Box.c2 {x y : Value} (h : Box w b #[x, y] t) : w.cell? ⟨b, 0, none⟩ = some x ∧ w.cell? ⟨b, 1, none⟩ = some y := ⟨h.cell 0 rfl, h.cell 1 rfl⟩
theorem Box.c3 {x y z : Value} (h : Box w b #[x, y, z] t) : w.cell? ⟨b, 0, none⟩ = some x ∧ w.cell? ⟨b, 1, none⟩ = some y ∧ w.cell? ⟨b, 2, none⟩ = some z := ⟨h.cell 0 rfl, h.cell 1 rfl, h.cell 2 rfl⟩
theorem Box.c4 {x y z u : Value} (h : Box w b #[x, y, z, u] t) : w.cell? ⟨b, 0, none⟩ = some x ∧ w.cell? ⟨b, 1, none⟩ = some y ∧ w.cell? ⟨b, 2, none⟩ = some z ∧ w.cell? ⟨b, 3, none⟩ = some u := ⟨h.cell 0 rfl, h.cell 1 rfl, h.cell 2 rfl, h.cell 3 rfl⟩
theorem Box.c8 {a b' c d e f g h' : Value} (h : Box w b #[a, b', c, d, e, f, g, h'] t) : w.cell? ⟨b, 0, none⟩ = some a ∧ w.cell? ⟨b, 1, none⟩ = some b' ∧ w.cell? ⟨b, 2, none⟩ = some c ∧ w.cell? ⟨b, 3, none⟩ = some d ∧ w.cell? ⟨b, 4, none⟩ = some e ∧ w.cell? ⟨b, 5, none⟩ = some f ∧ w.cell? ⟨b, 6, none⟩ = some g ∧ w.cell? ⟨b, 7, none⟩ = some h' := ⟨h.cell 0 rfl, h.cell 1 rfl, h.cell 2 rfl, h.cell 3 rfl, h.cell 4 rfl, h.cell 5 rfl, h.cell 6 rfl, h.cell 7 rfl⟩
end
/-- One, two, three boxed arguments: the world behind them. -/
theorem boxes1 (w : World) (c0 : Array Value) (t0 : TypeId) : ∃ W : World, Hid (w.alloc (.cells c0 t0) = W) ∧ Box W w.heap.size c0 t0 ∧ Below w.heap.size w W ∧ W.heap.size = w.heap.size + 1 :=
  ⟨_, Lib.hid rfl, Box.new _ _ _, (Below.refl w.heap.size w).alloc (Nat.le_refl _) _, by simp⟩
theorem boxes2 (w : World) (c0 : Array Value) (t0 : TypeId) (c1 : Array Value) (t1 : TypeId) : ∃ W : World, Hid ((w.alloc (.cells c0 t0)).alloc (.cells c1 t1) = W) ∧ Box W w.heap.size c0 t0 ∧ Box W (w.heap.size + 1) c1 t1 ∧ Below w.heap.size w W ∧ W.heap.size = w.heap.size + 2 := by
  have h1 := Box.new (w.alloc (.cells c0 t0)) c1 t1
  rw [show (w.alloc (.cells c0 t0)).heap.size = w.heap.size + 1 by simp] at h1
  exact ⟨_, Lib.hid rfl, (Box.new _ _ _).alloc _, h1, ((Below.refl w.heap.size w).alloc (Nat.le_refl _) _).alloc (by simp) _, by simp⟩
theorem boxes3 (w : World) (c0 : Array Value) (t0 : TypeId) (c1 : Array Value) (t1 : TypeId) (c2 : Array Value) (t2 : TypeId) : ∃ W : World, Hid (((w.alloc (.cells c0 t0)).alloc (.cells c1 t1)).alloc (.cells c2 t2) = W) ∧ Box W w.heap.size c0 t0 ∧ Box W (w.heap.size + 1) c1 t1 ∧ Box W (w.heap.size + 2) c2 t2 ∧ Below w.heap.size w W ∧ W.heap.size = w.heap.size + 3 := by
  obtain ⟨V, hV, b0, b1, hB, hs⟩ := boxes2 w c0 t0 c1 t1
  have h1 := Box.new V c2 t2
  rw [hs] at h1
  refine ⟨_, Lib.hid rfl, ?_, ?_, ?_, ?_, ?_⟩
  all_goals rw [hV.out]
  · exact b0.alloc _
  · exact b1.alloc _
  · exact h1
  · exact hB.alloc hB.size _
  · simp [hs]
theorem boxes4 (w : World) (c0 : Array Value) (t0 : TypeId) (c1 : Array Value) (t1 : TypeId) (c2 : Array Value) (t2 : TypeId) (c3 : Array Value) (t3 : TypeId) : ∃ W : World, Hid ((((w.alloc (.cells c0 t0)).alloc (.cells c1 t1)).alloc (.cells c2 t2)).alloc (.cells c3 t3) = W) ∧ Box W w.heap.size c0 t0 ∧ Box W (w.heap.size + 1) c1 t1 ∧ Box W (w.heap.size + 2) c2 t2 ∧ Box W (w.heap.size + 3) c3 t3 ∧ Below w.heap.size w W ∧ W.heap.size = w.heap.size + 4 := by
  obtain ⟨V, hV, b0, b1, b2, hB, hs⟩ := boxes3 w c0 t0 c1 t1 c2 t2
  have h1 := Box.new V c3 t3
  rw [hs] at h1
  refine ⟨_, Lib.hid rfl, ?_, ?_, ?_, ?_, ?_, ?_⟩
  all_goals rw [hV.out]
  · exact b0.alloc _
  · exact b1.alloc _
  · exact b2.alloc _
  · exact h1
  · exact hB.alloc hB.size _
  · simp [hs]
theorem add_base (b k : Nat) : (⟨b, 0, none⟩ : Addr).add k = ⟨b, k, none⟩ := by unfold Addr.add; split <;> simp_all
theorem Sl.kept {α : Type} {size : Nat} {cell : α → Nat → Value} {w : World} {A : Option Addr} {xs : List α} {u : Kept w.heap.size w} (h : Sl size cell w w.heap.size A xs) : Sl size cell u.val u.val.heap.size A xs := (h.below u.h).more u.h.size
/-- A slice over a block that is known whole. -/
theorem Sl.of_box {α : Type} {size : Nat} {cell : α → Nat → Value} {w : World} {b : Nat} {cs : Array Value} {t : TypeId} {xs : List α} (hb : Box w b cs t) (h : cs.toList = flat size cell xs) :
    Sl size cell w w.heap.size (some ⟨b, 0, none⟩) xs := by
  intro k hk
  refine ⟨_, rfl, hb.lt, fun j hj => ?_⟩
  have e1 : (⟨b, 0, none⟩ : Addr).add (k * size + j) = ⟨b, k * size + j, none⟩ := by unfold Addr.add; split <;> simp_all
  rw [e1, cell_of_row _ _ _ _ _ _ hb, ← Array.getElem?_toList, h, flat_at hk hj]
end Go.Proofs.YtihepapjopcagaaGreatDoor
end
