/- The contracts of number.compareNat, number.Compare at numbers from 0 on, and number.Power at the exponent 0. -/
import Derived.Test.YtpbcbomlhcbfjaaPower
import Derived.Test.YtpbcbomlhcbfjaaBox
import Derived.Deep.RegionWith
namespace Go.Proofs.Ytpbcbomlhcbfjaa
open Go Go.RowKit

namespace M
def cmpI (a b : Nat) : Int := if a < b then -1 else if a = b then 0 else 1
theorem val_split {b : Nat} {l : List Nat} {j : Nat} (h : j < l.length) : val b l = val b (l.take j) + b ^ j * (l[j] + b * val b (l.drop (j + 1))) := by
  have e : l = l.take j ++ (l[j] :: l.drop (j + 1)) := by rw [← List.drop_eq_getElem_cons h, List.take_append_drop]
  have hl : (l.take j).length = j := by simp; omega
  have e2 := congrArg (val b) e
  rw [val_append, hl] at e2
  exact e2
theorem val_cmp {b : Nat} (hb : 0 < b) {xs ys : List Nat} (hx : ∀ d ∈ xs, d < b) {j : Nat} (h1 : j < xs.length) (h2 : j < ys.length) (hd : xs.drop (j + 1) = ys.drop (j + 1)) (hlt : xs[j] < ys[j]) : val b xs < val b ys := by
  rw [val_split h1, val_split h2, hd]
  have ht := val_lt hb (l := xs.take j) (fun d hd => hx d (List.mem_of_mem_take hd))
  have hl : (xs.take j).length = j := by simp; omega
  rw [hl] at ht
  generalize val b (ys.drop (j + 1)) = D
  generalize val b (xs.take j) = A at *
  generalize val b (ys.take j) = C at *
  have h3 : b ^ j * (xs[j] + b * D) + b ^ j = b ^ j * (xs[j] + 1 + b * D) := by rw [show xs[j] + 1 + b * D = (xs[j] + b * D) + 1 by omega, Nat.mul_succ]
  have h4 : b ^ j * (xs[j] + 1 + b * D) ≤ b ^ j * (ys[j] + b * D) := Nat.mul_le_mul_left _ (by omega)
  omega
theorem wds_len_lt {a b : Nat} (h : (wds a).length < (wds b).length) : a < b := by
  apply Nat.lt_of_not_le; intro hle
  have h1 := wds_len.1 (Nat.le_refl (wds a).length)
  have h2 : (wds b).length ≤ (wds a).length := wds_len.2 (Nat.lt_of_le_of_lt hle h1)
  omega
end M

set_option maxHeartbeats 2000000 in
theorem compareNat_any (A D : Option Addr) (c d : Nat) (a b : Nat) (w : World) (B : Nat) (ha : Sl 1 wc w B A (M.wds a)) (hb : Sl 1 wc w B D (M.wds b)) (la : (M.wds a).length ≤ 1000) :
    Calls Try.prog 42 #[.slice A (M.wds a).length c, .slice D (M.wds b).length d] w fun e w' => e = .returned (.int .i64 (M.cmpI a b)) ∧ ∃ n, w' = w.drewN n := by
  by_cases hl : (M.wds a).length = (M.wds b).length
  · have HV1 := Lib.hid (M.wds_val a)
    have HV2 := Lib.hid (M.wds_val b)
    have HX := Lib.hid (M.wds_lt a)
    have HY := Lib.hid (M.wds_lt b)
    generalize M.wds a = xs at *
    generalize M.wds b = ys at *
    have h1 : ((xs.length : Int) != (ys.length : Int)) = false := by simp [hl]
    have HL := Lib.hid hl
    clear hl
    go_enter Try.func42, Try.ntmps42
    go_wp2_with fail
    go_loopw [5] (fun i wr => ∃ j nd : Nat, j ≤ xs.length ∧ i = .int .i64 ((j : Int) - 1) ∧ wr = w.drewN nd ∧ Hid (xs.drop j = ys.drop j)) (fun i _ => (intOf i + 1).toNat)
    case atStart => exact ⟨xs.length, 0, Nat.le_refl _, rfl, rfl, Lib.hid (by rw [List.drop_length, HL.out, List.drop_length])⟩
    case round =>
      obtain ⟨j, nd, hj, rfl, rfl, HT⟩ := hrel
      by_cases h0 : j = 0
      · subst h0
        have HF : Hid ((0 : Int) = M.cmpI a b) := Lib.hid (by
          have := HT.out
          rw [List.drop_zero, List.drop_zero] at this
          have e : a = b := by rw [← HV1.out, ← HV2.out, this]
          unfold M.cmpI; rw [e]; simp)
        rw [show ((0 : Nat) : Int) - 1 = -1 from rfl]
        go_wp2_with fail
        go_ret
        exact ⟨ret_int HF.out, _, rfl⟩
      · obtain ⟨k, rfl⟩ : ∃ k, j = k + 1 := ⟨j - 1, by omega⟩
        have hk1 : k < xs.length := by omega
        have hk2 : k < ys.length := by have := HL.out; omega
        rw [show ((k + 1 : Nat) : Int) - 1 = (k : Int) by omega]
        obtain ⟨a1, rfl, _, c1⟩ := ha k hk1
        obtain ⟨a2, rfl, _, c2⟩ := hb k hk2
        have c1 := c1 0 (by decide)
        have c2 := c2 0 (by decide)
        simp only [Nat.mul_one, Nat.add_zero, wc] at c1 c2
        have HA : Hid (xs[k] < ys[k] → (-1 : Int) = M.cmpI a b) := Lib.hid (fun h => by
          have := M.val_cmp (by decide) HX.out hk1 hk2 HT.out h
          rw [HV1.out, HV2.out] at this
          unfold M.cmpI; rw [if_pos this])
        have HB : Hid (ys[k] < xs[k] → (1 : Int) = M.cmpI a b) := Lib.hid (fun h => by
          have := M.val_cmp (by decide) HY.out hk2 hk1 HT.out.symm h
          rw [HV1.out, HV2.out] at this
          unfold M.cmpI; rw [if_neg (by omega), if_neg (by omega)])
        have HE : Hid (xs[k] = ys[k] → xs.drop k = ys.drop k) := Lib.hid (fun h => by rw [List.drop_eq_getElem_cons hk1, List.drop_eq_getElem_cons hk2, h, HT.out])
        generalize xs[k] = x at *
        generalize ys[k] = y at *
        have r1 : (0 : Int) ≤ (k : Int) := by omega
        have r2 : (k : Int) < (xs.length : Int) := by omega
        have r3 : (k : Int) < (ys.length : Int) := by omega
        by_cases hxy : x < y
        · have q1 : decide ((x : Int) < (y : Int)) = true := by simp; omega
          have q2 : decide (x < y) = true := by simp; omega
          go_wp2_with fail
          go_quiet (fail)
          go_wp2_with fail
          go_ret
          exact ⟨ret_int (HA.out hxy), _, World.drewN_drewN _ _ _⟩
        · have q1 : decide ((x : Int) < (y : Int)) = false := by simp; omega
          have q2 : decide (x < y) = false := by simp; omega
          by_cases hyx : y < x
          · have q3 : decide ((y : Int) < (x : Int)) = true := by simp; omega
            have q4 : decide (y < x) = true := by simp; omega
            go_wp2_with fail
            go_quiet (fail)
            rw [World.drewN_drewN]
            go_wp2_with fail
            go_quiet (fail)
            go_wp2_with fail
            go_ret
            exact ⟨ret_int (HB.out hyx), _, World.drewN_drewN _ _ _⟩
          · have q3 : decide ((y : Int) < (x : Int)) = false := by simp; omega
            have q4 : decide (y < x) = false := by simp; omega
            have HE2 := Lib.hid (HE.out (by omega))
            go_wp2_with fail
            go_quiet (fail)
            rw [World.drewN_drewN]
            go_wp2_with fail
            go_quiet (fail)
            rw [World.drewN_drewN]
            go_wp2_with fail
            go_roundw
            case rel => exact ⟨k, _, by omega, by go_num, rfl, HE2⟩
            case measure => simp [intOf]
  · have h1 : (((M.wds a).length : Int) != ((M.wds b).length : Int)) = true := by simp; omega
    by_cases hlt : (M.wds a).length < (M.wds b).length
    · have HF : Hid ((-1 : Int) = M.cmpI a b) := Lib.hid (by unfold M.cmpI; rw [if_pos (M.wds_len_lt hlt)])
      generalize M.wds a = xs at *
      generalize M.wds b = ys at *
      have HL := Lib.hid hl
      clear hl
      go_enter Try.func42, Try.ntmps42
      go_wp2_with fail
      go_ret
      exact ⟨ret_int HF.out, 0, rfl⟩
    · have HF : Hid ((1 : Int) = M.cmpI a b) := Lib.hid (by
        have := M.wds_len_lt (a := b) (b := a) (by omega)
        unfold M.cmpI; rw [if_neg (by omega), if_neg (by omega)])
      generalize M.wds a = xs at *
      generalize M.wds b = ys at *
      have HL := Lib.hid hl
      clear hl
      go_enter Try.func42, Try.ntmps42
      go_wp2_with fail
      go_ret
      exact ⟨ret_int HF.out, 0, rfl⟩

theorem natOf_byt (A : Option Addr) (c n : Nat) (w : World) (ha : Sl 1 bc w w.heap.size A (M.byt n)) (hl : (M.byt n).length ≤ 64) :
    Calls Try.prog 37 #[.slice A (M.byt n).length c] w (RetN w n) := by
  have := natOf_any A c (M.byt n) w ha (M.byt_lt n) hl
  rwa [M.byt_val] at this

set_option maxHeartbeats 4000000 in
theorem compare_ok (m n bm bn : Nat) (u v : Value) (w : World) (hu : IsInt w bm m u) (hv : IsInt w bn n v) (hm : M.bl m ≤ 512) (hn : M.bl n ≤ 512) :
    Calls Try.prog 23 #[u, v] w fun e w' => e = .returned (.int .i64 (M.cmpI m n)) ∧ Below w.heap.size w w' := by
  have hlm := M.byt_bd hm
  have hln := M.byt_bd hn
  have hu0 := hu
  have hv0 := hv
  obtain ⟨A, c, rfl, _, hS⟩ := hu
  obtain ⟨D, d, rfl, _, hT⟩ := hv
  obtain ⟨V, HW, x0, x1, hB, -⟩ := boxes2 w #[.bool false, .slice A (M.byt m).length c] 48 #[.bool false, .slice D (M.byt n).length d] 48
  have hS1 := (hS.below hB).more hB.size
  have hT1 := (hT.below hB).more hB.size
  have hu1 := hu0.kept hB
  have hv1 := hv0.kept hB
  go_enter Try.func23, Try.ntmps23
  go_wp2_with fail
  rw [HW.out]
  refine (numValid_ok m bm _ V hu1 hm).mono ?_
  rintro e w1 ⟨rfl, hb1⟩
  have B1 := after_ hB hb1
  have y0 := x0.below hb1
  have y1 := x1.below hb1
  obtain ⟨c0, c1⟩ := y0.c2
  obtain ⟨d0, d1⟩ := y1.c2
  go_wp2_with fail
  refine (numValid_ok n bn _ w1 (hv1.kept hb1) hn).mono ?_
  rintro e w2 ⟨rfl, hb2⟩
  have B2 := after_ B1 hb2
  have z0 := y0.below hb2
  have z1 := y1.below hb2
  have hS2 := (((hS1.below hb1).more hb1.size).below hb2).more hb2.size
  have hT2 := (((hT1.below hb1).more hb1.size).below hb2).more hb2.size
  clear c0 c1 d0 d1
  obtain ⟨c0, c1⟩ := z0.c2
  obtain ⟨d0, d1⟩ := z1.c2
  clear x0 x1 y0 y1 hS hT hS1 hT1 hu1 hv1 hu0 hv0 hb1
  go_wp2_with fail
  have hS3 : Sl 1 bc w2.drew w2.drew.heap.size A (M.byt m) := hS2
  have hT3 : Sl 1 bc w2.drew w2.drew.heap.size D (M.byt n) := hT2
  have B3 : Below w.heap.size w w2.drew := B2.drew
  have hwm : (M.wds m).length ≤ 16 := M.wds_bl (by omega)
  have hwm2 : (M.wds m).length ≤ 1000 := by omega
  have l0 := z0.lt
  have l1 := z1.lt
  clear hS2 hT2 z0 z1
  go_region_with (first
    | (go_at_call 37; ((with_reducible refine (natOf_byt A c m _ (by assumption) hlm).mono ?_); rintro e wa ⟨Aa, ca, rfl, -, -, hSa, hba⟩; (try (have d1a := (hba.cell (p := ⟨w.heap.size + 1, 1, none⟩) l1).trans d1; have hT4 := (hT3.below hba).more hba.size)); (try (have hSb4 := (hSb.below hba).more hba.size))))
    | (go_at_call 37; ((with_reducible refine (natOf_byt D d n _ (by assumption) hln).mono ?_); rintro e wb ⟨Ab, cb, rfl, -, -, hSb, hbb⟩; (try (have c1b := (hbb.cell (p := ⟨w.heap.size, 1, none⟩) l0).trans c1; have hS4 := (hS3.below hbb).more hbb.size)); (try (have hSa4 := (hSa.below hbb).more hbb.size))))
    | (go_at_call 42; ((with_reducible refine (compareNat_any Aa Ab ca cb m n _ _ (by assumption) (by assumption) hwm2).mono ?_); rintro e wq ⟨rfl, nc, rfl⟩)))
  all_goals
    first
      | (have hF := below_drewN (after_ hba hbb) nc
         have cF := (hF.cell (p := ⟨w.heap.size, 0, none⟩) l0).trans c0
         go_wp2_with fail
         go_ret
         exact ⟨rfl, B3.trans (hF.mono B3.size)⟩)
      | (have hF := below_drewN (after_ hbb hba) nc
         have cF := (hF.cell (p := ⟨w.heap.size, 0, none⟩) l0).trans c0
         go_wp2_with fail
         go_ret
         exact ⟨rfl, B3.trans (hF.mono B3.size)⟩)

set_option maxHeartbeats 2000000 in
theorem power_zero (n base : Nat) (v : Value) (w : World) (hv : IsInt w base n v) (hn : M.bl n ≤ 512) :
    Calls Try.prog 21 #[v, .int .i64 0] w (RetI w 1) := by
  have hbyl := M.byt_bd hn
  have hv0 := hv
  obtain ⟨A, c, rfl, _, hS⟩ := hv
  obtain ⟨V, HW, x0, x1, hB, -⟩ := boxes2 w #[.bool false, .slice A (M.byt n).length c] 48 #[.bool false, .slice none 0 0] 48
  have hv1 := hv0.kept hB
  have hS1 := (hS.below hB).more hB.size
  go_enter Try.func21, Try.ntmps21
  go_wp2_with fail
  rw [HW.out]
  refine (numValid_ok n base _ V hv1 hn).mono ?_
  rintro e w1 ⟨rfl, hb1⟩
  have B1 := after_ hB hb1
  have y0 := x0.below hb1
  have y1 := x1.below hb1
  obtain ⟨c0, c1⟩ := y0.c2
  have hS2 := (hS1.below hb1).more hb1.size
  go_wp2_with fail
  refine (natOf_byt A c n w1 hS2 hbyl).mono ?_
  rintro e w2 ⟨A2, c2, rfl, -, -, -, hb2⟩
  have B2 := after_ B1 hb2
  have z0 := y0.below hb2
  have z1 := y1.below hb2
  clear c0 c1
  obtain ⟨c0, c1⟩ := z0.c2
  obtain ⟨U, HU, u0, hBU, -⟩ := boxes1 w2 #[.int .u32 1] 73
  have hSp : Sl 1 wc U U.heap.size (some ⟨w2.heap.size, 0, none⟩) (M.wds 1) := Sl.of_box u0 (by rw [M.wds_one]; rfl)
  have B3 := after_ B2 hBU
  have t1 := z1.below hBU
  go_wp2_with fail
  rw [HU.out]
  have hbo := build_ok (some ⟨w2.heap.size, 0, none⟩) 1 1 U hSp (by decide +kernel)
  rw [show (M.wds 1).length = 1 from by rw [M.wds_one]; rfl] at hbo
  refine hbo.mono ?_
  rintro e w4 ⟨v4, rfl, ⟨A4, c4, rfl, hfr4, hS4⟩, hb4⟩
  have B4 := after_ B3 hb4
  have s1 := t1.below hb4
  obtain ⟨d0, d1⟩ := s1.c2
  have g0 := s1.frozen 0
  have g1 := s1.frozen 1
  have hne : Hid (∀ ad, A4 = some ad → ad.block ≠ w.heap.size + 1 ∧ w.heap.size ≤ ad.block) := Lib.hid (fun ad h => by have := hfr4 ad h; have := t1.lt; have := B3.size; omega)
  clear hfr4 c0 c1 hbo
  go_wp2_with fail
  refine bodyPost_ret (v := .tuple #[.agg #[.bool false, .slice A4 (M.byt 1).length c4], .int .i64 0]) ?_ rfl ?_
  · simp [results, Try.results21, go_sem, d0, d1]
  · refine ⟨_, rfl, ⟨A4, c4, rfl, fun ad h => (hne.out ad h).2, ?_⟩, (B4.setCell (p := ⟨w.heap.size + 1, 0, none⟩) (by simp) _).setCell (p := ⟨w.heap.size + 1, 1, none⟩) (by simp) _⟩
    exact ((hS4.setFar (p := ⟨w.heap.size + 1, 0, none⟩) (fun ad h => (hne.out ad h).1) _).setFar (p := ⟨w.heap.size + 1, 1, none⟩) (fun ad h => (hne.out ad h).1) _).more (by simp)
end Go.Proofs.Ytpbcbomlhcbfjaa
