/- A bundle of texts: ScSame. -/
import Derived.Test.YtciolgmljpamlaaGreatDoorProg
import Derived.Test.YtciolgmljpamlaaGreatDoorB01
/- The contracts of the reference's SameInts and SameVolumes. -/
section
namespace Go.Proofs.YtciolgmljpamlaaGreatDoor
open Go Go.RowKit
set_option maxRecDepth 100000

theorem take_snocW {α : Type} {xs : List α} {k : Nat} (h : k < xs.length) : xs.take (k + 1) = xs.take k ++ [xs[k]] := by
  rw [List.take_succ_eq_append_getElem h]

set_option maxHeartbeats 1000000 in
theorem sameInts_any (A D : Option Addr) (c d B : Nat) (xs ys : List Int) (w : World) (ha : Sl 1 icell w B A xs) (hb : Sl 1 icell w B D ys) (lx : xs.length ≤ 9223372036854775807) :
    Calls Tryz.prog 37 #[.slice A xs.length c, .slice D ys.length d] w fun e w' => e = .returned (.bool (decide (xs = ys))) ∧ ∃ n, w' = w.drewN n := by
  by_cases hl : xs.length = ys.length
  · have h1 : ((xs.length : Int) != (ys.length : Int)) = false := by simp [hl]
    have HL := Lib.hid hl
    clear hl
    go_enter Tryz.func37, Tryz.ntmps37
    go_wp2
    go_loopw [5] (fun i wr => ∃ k nd : Nat, k ≤ xs.length ∧ i = .int .i64 k ∧ wr = w.drewN nd ∧ Hid (xs.take k = ys.take k)) (fun i _ => xs.length - (intOf i).toNat)
    case atStart => exact ⟨0, 0, Nat.zero_le _, rfl, rfl, Lib.hid (by simp)⟩
    case round =>
      obtain ⟨k, nd, hk, rfl, rfl, HT⟩ := hrel
      by_cases hlt : k < xs.length
      · have hlt2 : k < ys.length := by have := HL.out; omega
        obtain ⟨a1, rfl, _, hc1⟩ := ha.int_at hlt
        obtain ⟨a2, rfl, _, hc2⟩ := hb.int_at hlt2
        have HX := Lib.hid (take_snocW hlt)
        have HY := Lib.hid (take_snocW hlt2)
        generalize xs[k] = x at *
        generalize ys[k] = y at *
        go_wp2
        by_cases he : x = y
        · have hE := Lib.hid he
          have hb : (x != y) = false := by simp [he]
          clear he
          go_quiet (fail)
          go_wp2
          go_roundw
          case rel => exact ⟨k + 1, _, hlt, by go_num, rfl, Lib.hid (by rw [HX.out, HY.out, HT.out, hE.out])⟩
          case measure => simp [intOf]; omega
        · have hE := Lib.hid he
          have hb : (x != y) = true := by simp [he]
          clear he
          go_quiet (fail)
          go_wp2
          go_ret
          refine ⟨ret_bool (a := false) (Eq.symm (decide_eq_false fun e => ?_)), _, World.drewN_drewN _ _ _⟩
          have := HX.out
          rw [e, HY.out] at this
          have h2 := List.append_inj_right' this rfl
          exact hE.out (by simpa using h2.symm)
      · have hkl : k = xs.length := by omega
        have HK := Lib.hid hkl
        clear hkl
        go_wp2
        go_ret
        refine ⟨ret_bool (a := true) (Eq.symm (decide_eq_true ?_)), _, rfl⟩
        have := HT.out
        rw [List.take_of_length_le (by have := HK.out; omega), List.take_of_length_le (by have := HK.out; have := HL.out; omega)] at this
        exact this
  · have h1 : ((xs.length : Int) != (ys.length : Int)) = true := by simp; omega
    have HL := Lib.hid hl
    clear hl
    go_enter Tryz.func37, Tryz.ntmps37
    go_wp2
    go_ret
    exact ⟨ret_bool (a := false) (Eq.symm (decide_eq_false fun e => HL.out (by rw [e]))), 0, rfl⟩

def vcellW (x : Int × Int) (j : Nat) : Value := if j = 0 then .int .i64 x.1 else .int .i64 x.2

@[go_sem] theorem eqVol (a b c d : Int) (w : World) : (Op.equalIn 10000 82 (.agg #[.int .i64 a, .int .i64 b]) (.agg #[.int .i64 c, .int .i64 d])).run Tryz.prog w = .ok (a == c && b == d) w := by
  have u3 := Tryz.underlying3
  have hS : Tryz.prog.underlying 82 = some (.struct (Tryz.prog.fieldsOf 82)) := by kernel_rfl
  have hp : Tryz.prog.stoodInHeld 82 = false := by kernel_rfl
  rw [show (10000 : Nat) = 9999 + 1 from rfl, run_equalIn_agg w 9999 82 _ _ hS hp]
  simp only [Program.fieldsOf, Tryz.underlying82]
  go_simp
  by_cases h1 : a = c <;> by_cases h2 : b = d <;> simp [h1, h2]
@[go_sem] theorem guardVol : Tryz.prog.eqGuardType Tryz.prog.depth 82 = false := by kernel_rfl

set_option maxHeartbeats 1000000 in
theorem sameVolumes_any (A D : Option Addr) (c d B : Nat) (xs ys : List (Int × Int)) (w : World) (ha : Sl 2 vcellW w B A xs) (hb : Sl 2 vcellW w B D ys) (lx : xs.length ≤ 9223372036854775807) :
    Calls Tryz.prog 36 #[.slice A xs.length c, .slice D ys.length d] w fun e w' => e = .returned (.bool (decide (xs = ys))) ∧ ∃ n, w' = w.drewN n := by
  by_cases hl : xs.length = ys.length
  · have h1 : ((xs.length : Int) != (ys.length : Int)) = false := by simp [hl]
    have HL := Lib.hid hl
    clear hl
    go_enter Tryz.func36, Tryz.ntmps36
    go_wp2
    go_loopw [5] (fun i wr => ∃ k nd : Nat, k ≤ xs.length ∧ i = .int .i64 k ∧ wr = w.drewN nd ∧ Hid (xs.take k = ys.take k)) (fun i _ => xs.length - (intOf i).toNat)
    case atStart => exact ⟨0, 0, Nat.zero_le _, rfl, rfl, Lib.hid (by simp)⟩
    case round =>
      obtain ⟨k, nd, hk, rfl, rfl, HT⟩ := hrel
      by_cases hlt : k < xs.length
      · have hlt2 : k < ys.length := by have := HL.out; omega
        obtain ⟨a1, rfl, _, c1, hc1⟩ := ha.sp (by omega) hlt
        obtain ⟨a2, rfl, _, c3, hc2⟩ := hb.sp (by omega) hlt2
        have HX := Lib.hid (take_snocW hlt)
        have HY := Lib.hid (take_snocW hlt2)
        have c2 := hc1 1 (by omega) (by omega)
        have c4 := hc2 1 (by omega) (by omega)
        clear hc1 hc2
        generalize xs[k] = x at *
        generalize ys[k] = y at *
        obtain ⟨x1, x2⟩ := x
        obtain ⟨y1, y2⟩ := y
        simp only [vcellW] at c1 c2 c3 c4
        simp at c1 c2 c3 c4
        go_wp2
        by_cases he : (x1, x2) = (y1, y2)
        · obtain ⟨rfl, rfl⟩ := Prod.mk.inj he
          clear he
          go_quiet (fail)
          go_wp2
          go_roundw
          case rel => exact ⟨k + 1, _, hlt, by go_num, rfl, Lib.hid (by rw [HX.out, HY.out, HT.out])⟩
          case measure => simp [intOf]; omega
        · have hE := Lib.hid he
          have fin : Hid (decide (xs = ys) = false) := Lib.hid (decide_eq_false fun e => by
            have := HX.out
            rw [e, HY.out] at this
            have h2 := List.append_inj_right' this rfl
            exact hE.out (by simpa using h2.symm))
          by_cases h1 : x1 = y1
          · obtain rfl := h1
            have h2 : ¬ x2 = y2 := fun e => he (by rw [e])
            clear he
            go_quiet (fail)
            go_wp2
            go_ret
            exact ⟨ret_bool (a := false) fin.out.symm, _, World.drewN_drewN _ _ _⟩
          · clear he
            go_quiet (fail)
            go_wp2
            go_ret
            exact ⟨ret_bool (a := false) fin.out.symm, _, World.drewN_drewN _ _ _⟩
      · have hkl : k = xs.length := by omega
        have HK := Lib.hid hkl
        clear hkl
        go_wp2
        go_ret
        refine ⟨ret_bool (a := true) (Eq.symm (decide_eq_true ?_)), _, rfl⟩
        have := HT.out
        rw [List.take_of_length_le (by have := HK.out; omega), List.take_of_length_le (by have := HK.out; have := HL.out; omega)] at this
        exact this
  · have h1 : ((xs.length : Int) != (ys.length : Int)) = true := by simp; omega
    have HL := Lib.hid hl
    clear hl
    go_enter Tryz.func36, Tryz.ntmps36
    go_wp2
    go_ret
    exact ⟨ret_bool (a := false) (Eq.symm (decide_eq_false fun e => HL.out (by rw [e]))), 0, rfl⟩
end Go.Proofs.YtciolgmljpamlaaGreatDoor
end
