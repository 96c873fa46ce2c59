/- The walk of the law ScoreHolds: it returns true. -/
import Derived.Test.YtpbcbomlhcbfjaaDoorHoldsMath
import Derived.Test.YtpbcbomlhcbfjaaDoorLaws1
namespace Go.Proofs.YtpbcbomlhcbfjaaDoor
open Go Go.RowKit

theorem M.vols_ok {xs : List Wt} (h : M.okB xs = true) : M.vols xs = xs.map (fun x => (x.1, M.vol (M.most xs) x)) ∧ M.volsE xs = 0 := by simp [M.vols, M.volsE, h]
theorem raw_eq {s l p r : Int} (hv : M.wtB s l p = true) (hr : M.raw (s, l, p) = r) (w : World) :
    Calls Tryd.prog 12 #[.agg #[.int .i64 s, .int .i64 l, .int .i64 p]] w fun e w' => e = .returned (.tuple #[.int .i64 r, .int .i64 0]) ∧ Below w.heap.size w w' := by
  have h := raw_any s l p w
  have e1 : M.rawV s l p = r := by rw [← hr]; simp [M.rawV, hv, M.raw]
  have e2 : M.wtE s l p = 0 := by simp [M.wtE, hv]
  rw [e1, e2] at h
  exact h
theorem offers_ok {v b : Int} {h : Nat} (hv : 1 ≤ v ∧ v ≤ 1000000 ∧ 0 ≤ b ∧ b ≤ 1000000000) (h1 : 1 ≤ h) (h3 : h ≤ 3) (w : World) (ht : Tab w) :
    Calls Tryd.prog 21 #[.int .i64 v, .int .i64 b, .int .i64 (h : Int)] w (RetL 1 icell w (M.offsTo v b h (h + 1)) 0) := by
  have hh := offers_any v b h w ht
  have e := M.offs_ok (v := v) (b := b) (h := (h : Int)) hv (by omega) (by omega)
  rw [e.1, e.2, Int.toNat_natCast] at hh
  exact hh

set_option maxRecDepth 100000 in
set_option maxHeartbeats 16000000 in
theorem scoreHolds_nil (A : Option Addr) (c : Nat) (base more home : Int) (w : World) (ht : Tab w) :
    Calls Tryd.prog 8 #[.slice A 0 c, .int .i64 base, .int .i64 more, .int .i64 home] w (LawTrue w) := by
  have fin := Lib.hid (M.vols_ok (M.okB_true (M.okTo_zero [])))
  have hv := volumes_any A c [] w Sl.nil_ (by decide)
  have HV := Lib.hid hv
  clear hv
  go_enter Tryd.func8, Tryd.ntmps8
  go_wp2_with fail
  refine HV.out.mono ?_
  rintro e w1 ⟨A1, c1, rfl, hS1, hb1⟩
  rw [fin.out.1, fin.out.2]
  have t1 := ht.kept hb1
  simp only [List.map_nil, List.length_nil]
  clear hS1 HV
  go_wp2_with fail
  refine wp_loop_rounds 1 ?_
  rw [rounds_succ]
  by_cases hrng : 0 ≤ base ∧ base ≤ more ∧ more ≤ 1000000000 ∧ 1 ≤ home ∧ home ≤ 3
  · obtain ⟨g1, g2, g3, g4, g5⟩ := hrng
    go_wp2_with fail
    refine wp_loop_rounds 1 ?_
    rw [rounds_succ]
    go_wp2_with fail
    refine (known_any _ t1).mono ?_
    rintro e w6 ⟨rfl, hb⟩
    go_wp2_with fail
    go_ret
    exact ⟨rfl, after_ hb1 hb⟩
  · have hrng' : base < 0 ∨ more < base ∨ 1000000000 < more ∨ home < 1 ∨ 3 < home := by omega
    clear hrng
    go_wp2_with fail
    all_goals
      refine (known_any _ t1).mono ?_
      rintro e w6 ⟨rfl, hb⟩
      go_wp2_with fail
      go_ret
      exact ⟨rfl, after_ hb1 hb⟩

set_option maxRecDepth 100000 in
set_option maxHeartbeats 16000000 in
theorem scoreHolds_pos (A : Option Addr) (c : Nat) (xs : List Wt) (base more home : Int) (w : World) (ht : Tab w) (ha : Sl 3 wcell w w.heap.size A xs) (lx : xs.length ≤ 9223372036854775807) (hpos : 0 < xs.length) :
    Calls Tryd.prog 8 #[.slice A xs.length c, .int .i64 base, .int .i64 more, .int .i64 home] w (LawTrue w) := by
  by_cases hbig : 40 < xs.length
  · go_enter Tryd.func8, Tryd.ntmps8
    go_wp2_with fail
    refine (known_any _ ht).mono ?_
    rintro e w1 ⟨rfl, hb⟩
    go_wp2_with fail
    go_ret
    exact ⟨rfl, hb⟩
  cases hok : M.okB xs
  · have fin : Hid (M.vols xs = [] ∧ M.volsE xs = 2) := Lib.hid (by simp [M.vols, M.volsE, hok])
    clear hok
    go_enter Tryd.func8, Tryd.ntmps8
    go_wp2_with fail
    refine (volumes_any _ _ _ _ ha (by omega)).mono ?_
    rintro e w1 ⟨A1, c1, rfl, hS1, hb1⟩
    rw [fin.out.1, fin.out.2]
    have t1 := ht.kept hb1
    go_wp2_with fail
    refine (known_any _ t1).mono ?_
    rintro e w2 ⟨rfl, hb⟩
    go_wp2_with fail
    go_ret
    exact ⟨rfl, after_ hb1 hb⟩
  · have fin := Lib.hid (M.vols_ok hok)
    have HO := Lib.hid (M.okB_of hok)
    clear hok
    go_enter Tryd.func8, Tryd.ntmps8
    go_wp2_with fail
    refine (volumes_any _ _ _ _ ha (by omega)).mono ?_
    rintro e w1 ⟨A1, c1, rfl, hS1, hb1⟩
    rw [fin.out.1] at hS1
    rw [fin.out.1, fin.out.2]
    have t1 := ht.kept hb1
    have ha1 := (ha.below hb1).more hb1.size
    have hbeq : ((xs.length : Int) != (xs.length : Int)) = false := by simp
    simp only [List.length_map]
    clear ha
    go_wp2_with fail
    go_loopw [11, 12] (fun mm i wr => ∃ (k : Nat) (m : Int), k ≤ xs.length ∧ i = .int .i64 k ∧ mm = .int .i64 m ∧ 0 ≤ m ∧ m ≤ 1000000 ∧ Below w1.heap.size w1 wr ∧ Hid (∀ i (h : i < xs.length), i < k → M.vol (M.most xs) xs[i] ≤ m)) (fun _ i _ => xs.length - (intOf i).toNat)
    case atStart => exact ⟨0, 0, Nat.zero_le _, rfl, rfl, by omega, by omega, Below.refl _ _, Lib.hid (fun i _ h => absurd h (by omega))⟩
    case round =>
      obtain ⟨k, m, hk, rfl, rfl, hm0, hm1, hB, HM⟩ := hrel
      by_cases hlt : k < xs.length
      · have hl1 : k < (xs.map (fun x => (x.1, M.vol (M.most xs) x))).length := by simp; exact hlt
        obtain ⟨ad1, rfl, hd1b, dx, hd1⟩ := ((hS1.below hB).more hB.size).sp (by omega) hl1
        have d2 := hd1 1 (by omega) (by omega)
        obtain ⟨ad, rfl, hcb, c1, hc1⟩ := ((ha1.below hB).more hB.size).sp (by omega) hlt
        have c2 := hc1 1 (by omega) (by omega)
        have c3 := hc1 2 (by omega) (by omega)
        clear hc1 hd1 dx
        have hoki := (HO.out k hlt hlt).1
        obtain ⟨v0, v1⟩ := M.vol_bd hoki (M.raw_le_most hlt)
        simp [vcell] at d2
        obtain ⟨vi, hvi⟩ : ∃ v, M.vol (M.most xs) xs[k] = v := ⟨_, rfl⟩
        obtain ⟨ri, hri⟩ : ∃ v, M.raw xs[k] = v := ⟨_, rfl⟩
        rw [hvi] at d2 v0 v1
        clear hl1
        have HVi := Lib.hid hvi
        have HRi := Lib.hid hri
        obtain ⟨⟨s, l, p⟩, hX⟩ : ∃ x, xs[k] = x := ⟨_, rfl⟩
        have HW : Hid (M.wtB s l p = true) := Lib.hid (by rw [hX] at hoki; exact hoki)
        have HRR : Hid (M.raw (s, l, p) = ri) := Lib.hid (by rw [← hX]; exact hri)
        rw [hX] at c1 c2 c3
        simp [wcell] at c1 c2 c3
        clear hX hoki hvi hri
        obtain ⟨m', hif⟩ : ∃ m', (if m < vi then vi else m) = m' := ⟨_, rfl⟩
        have hm1' : m ≤ m' := by rw [← hif]; split <;> omega
        have hm2' : vi ≤ m' := by rw [← hif]; split <;> omega
        have hm3' : m' ≤ 1000000 := by rw [← hif]; split <;> omega
        go_wp2_with fail
        clear hif
        refine (raw_eq HW.out HRR.out _).mono ?_
        rintro e w3 ⟨rfl, hb3⟩
        have hB3 := after_ hB hb3
        clear c1 c2 c3 d2 hd1b hcb hB hb3
        go_wp2_with fail
        go_loopw [15] (fun i wr => ∃ j : Nat, j ≤ xs.length ∧ i = .int .i64 j ∧ Below w1.heap.size w1 wr) (fun i _ => xs.length - (intOf i).toNat)
        case atStart => exact ⟨0, Nat.zero_le _, rfl, hB3⟩
        case round =>
          obtain ⟨j, hj, rfl, hBj⟩ := hrel
          clear hB3
          by_cases hltj : j < xs.length
          · have hl1 : k < (xs.map (fun x => (x.1, M.vol (M.most xs) x))).length := by simp; exact hlt
            have hl2 : j < (xs.map (fun x => (x.1, M.vol (M.most xs) x))).length := by simp; exact hltj
            obtain ⟨ad1', e1, hd1b, dx1, hd1⟩ := ((hS1.below hBj).more hBj.size).sp (by omega) hl1
            obtain rfl : ad1 = ad1' := Option.some.inj e1
            obtain ⟨ad1', e2, hd2b, dx2, hd2⟩ := ((hS1.below hBj).more hBj.size).sp (by omega) hl2
            obtain rfl : ad1 = ad1' := Option.some.inj e2
            have d1 := hd1 1 (by omega) (by omega)
            have d2 := hd2 1 (by omega) (by omega)
            obtain ⟨ad', e3, hcb, c1, hc1⟩ := ((ha1.below hBj).more hBj.size).sp (by omega) hltj
            obtain rfl : ad = ad' := Option.some.inj e3
            have c2 := hc1 1 (by omega) (by omega)
            have c3 := hc1 2 (by omega) (by omega)
            clear hc1 hd1 hd2 dx1 dx2 e1 e2 e3
            have hokj := (HO.out j hltj hltj).1
            simp [vcell] at d1 d2
            rw [HVi.out] at d1
            obtain ⟨vj, hvj⟩ : ∃ v, M.vol (M.most xs) xs[j] = v := ⟨_, rfl⟩
            obtain ⟨rj, hrj⟩ : ∃ v, M.raw xs[j] = v := ⟨_, rfl⟩
            rw [hvj] at d2
            clear hl1 hl2
            have hmono : Hid (rj ≤ ri → vj ≤ vi) := Lib.hid (by
              intro h
              rw [← hvj, ← HVi.out]
              exact M.vol_mono (M.mostTo_nonneg _ _) (by rw [hrj, HRi.out]; exact h))
            have heq : Hid (ri = rj → vi = vj) := Lib.hid (by
              intro h
              rw [← hvj, ← HVi.out]
              exact M.vol_eq _ (by rw [hrj, HRi.out]; exact h))
            obtain ⟨⟨s', l', p'⟩, hX⟩ : ∃ x, xs[j] = x := ⟨_, rfl⟩
            have HW' : Hid (M.wtB s' l' p' = true) := Lib.hid (by rw [hX] at hokj; exact hokj)
            have HRR' : Hid (M.raw (s', l', p') = rj) := Lib.hid (by rw [← hX]; exact hrj)
            rw [hX] at c1 c2 c3
            simp [wcell] at c1 c2 c3
            clear hX hokj hvj hrj
            go_wp2_with fail
            refine (raw_eq HW'.out HRR'.out _).mono ?_
            rintro e w4 ⟨rfl, hb4⟩
            have g1 := (hb4.cell (p := ⟨(ad1.add (k * 2)).block, (ad1.add (k * 2)).off + 1, none⟩) hd1b).trans d1
            have g2 := (hb4.cell (p := ⟨(ad1.add (j * 2)).block, (ad1.add (j * 2)).off + 1, none⟩) hd2b).trans d2
            have h1b := Nat.lt_of_lt_of_le hd1b hb4.size
            have h2b := Nat.lt_of_lt_of_le hd2b hb4.size
            have hBj' := after_ hBj hb4
            clear c1 c2 c3 d1 d2 hd1b hd2b hcb hBj hb4
            by_cases hlr : rj < ri
            · have q1 : decide (vi < vj) = false := by have := hmono.out (by omega); simp; omega
              have q2 : (ri == rj) = false := by simp; omega
              go_wp2_with fail
              refine wp_region_kept w4.heap.size w4 (by kernel_rfl) (by kernel_rfl) (Below.refl _ _) ?_
              repeat (go_big_quiet_step (fail))
              refine wpQuiet_nil ?_
              rintro w5 ⟨⟨_, hb5⟩, rfl⟩
              go_wp2_with fail
              go_roundw
              case rel => exact ⟨j + 1, hltj, by go_num, after_ hBj' hb5⟩
              case measure => simp [intOf]; omega
            · by_cases her : ri = rj
              · obtain rfl := her
                obtain rfl := heq.out rfl
                have q1 : decide (ri < ri) = false := by simp
                have q2 : (ri == ri) = true := by simp
                have q3 : (vi != vi) = false := by simp
                go_wp2_with fail
                refine wp_region_kept w4.heap.size w4 (by kernel_rfl) (by kernel_rfl) (Below.refl _ _) ?_
                repeat (go_big_quiet_step (fail))
                refine wpQuiet_nil ?_
                rintro w5 ⟨⟨_, hb5⟩, rfl⟩
                go_wp2_with fail
                go_roundw
                case rel => exact ⟨j + 1, hltj, by go_num, after_ hBj' hb5⟩
                case measure => simp [intOf]; omega
              · have q1 : decide (rj < ri) = false := by simp; omega
                have q2 : (ri == rj) = false := by simp; exact her
                go_wp2_with fail
                refine wp_region_kept w4.heap.size w4 (by kernel_rfl) (by kernel_rfl) (Below.refl _ _) ?_
                repeat (go_big_quiet_step (fail))
                refine wpQuiet_nil ?_
                rintro w5 ⟨⟨_, hb5⟩, rfl⟩
                go_wp2_with fail
                go_roundw
                case rel => exact ⟨j + 1, hltj, by go_num, after_ hBj' hb5⟩
                case measure => simp [intOf]; omega
          · have HM' : Hid (∀ i (h : i < xs.length), i < k + 1 → M.vol (M.most xs) xs[i] ≤ m') := Lib.hid (by
              intro i hi hik
              by_cases e : i = k
              · subst e; rw [HVi.out]; exact hm2'
              · exact Int.le_trans (HM.out i hi (by omega)) hm1')
            go_wp2_with fail
            go_roundw
            case rel => exact ⟨k + 1, m', hlt, by go_num, rfl, by omega, hm3', hBj, HM'⟩
            case measure => simp [intOf]; omega
      · have hkn : k = xs.length := by omega
        have hmx : Hid (0 < xs.length → m = 1000000) := Lib.hid (by
          intro h0
          obtain ⟨i, hi, he⟩ := M.vol_top h0
          have := HM.out i hi (by omega)
          omega)
        clear hkn HM
        have tB := t1.kept hB
        have hBw := after_ hb1 hB
        by_cases hrng : 0 ≤ base ∧ base ≤ more ∧ more ≤ 1000000000 ∧ 1 ≤ home ∧ home ≤ 3
        · obtain ⟨g1, g2, g3, g4, g5⟩ := hrng
          obtain ⟨hN, rfl⟩ := Int.eq_ofNat_of_zero_le (show 0 ≤ home by omega)
          have hcase : (0 < xs.length ∧ m = 1000000) ∨ ¬ 0 < xs.length := by
            by_cases h0 : 0 < xs.length
            · exact .inl ⟨h0, hmx.out h0⟩
            · exact .inr h0
          have q1 : ((1000000 : Int) != 1000000) = false := by decide
          rcases hcase with ⟨h0, rfl⟩ | h0
          · go_wp2_with fail
            go_loopw [18] (fun i wr => ∃ k : Nat, k ≤ xs.length ∧ i = .int .i64 k ∧ Below w1.heap.size w1 wr) (fun i _ => xs.length - (intOf i).toNat)
            case atStart => exact ⟨0, Nat.zero_le _, rfl, hB⟩
            case round =>
              clear hlt hk hB tB hBw
              obtain ⟨k, hk, rfl, hB⟩ := hrel
              have tB := t1.kept hB
              by_cases hlt : k < xs.length
              · have hl1 : k < (xs.map (fun x => (x.1, M.vol (M.most xs) x))).length := by simp; exact hlt
                obtain ⟨ad1, rfl, hd1b, dx, hd1⟩ := ((hS1.below hB).more hB.size).sp (by omega) hl1
                have d2 := hd1 1 (by omega) (by omega)
                clear hd1 dx
                obtain ⟨v0, v1⟩ := M.vol_bd (HO.out k hlt hlt).1 (M.raw_le_most hlt)
                simp [vcell] at d2
                obtain ⟨vi, hvi⟩ : ∃ v, M.vol (M.most xs) xs[k] = v := ⟨_, rfl⟩
                rw [hvi] at d2 v0 v1
                clear hl1 hvi
                have hv1 : 1 ≤ vi ∧ vi ≤ 1000000 ∧ 0 ≤ base ∧ base ≤ 1000000000 := by omega
                have hv2 : 1 ≤ vi ∧ vi ≤ 1000000 ∧ 0 ≤ more ∧ more ≤ 1000000000 := by omega
                have hv3 : 1 ≤ (1000000 : Int) ∧ (1000000 : Int) ≤ 1000000 ∧ 0 ≤ base ∧ base ≤ 1000000000 := by omega
                have HV1 := Lib.hid hv1
                have HV2 := Lib.hid hv2
                have HV3 := Lib.hid hv3
                clear hv1 hv2 hv3
                go_wp2_with fail
                refine (offers_ok HV1.out (by omega) (by omega) _ tB).mono ?_
                rintro e w3 ⟨A3, c3, rfl, hS3, hb3⟩
                have hB3 := after_ hB hb3
                have d3 := (hb3.cell (p := ⟨(ad1.add (k * 2)).block, (ad1.add (k * 2)).off + 1, none⟩) hd1b).trans d2
                rw [M.offsTo_length]
                clear d2 hd1b hB hb3 tB
                go_wp2_with fail
                refine (offers_ok HV2.out (by omega) (by omega) _ (t1.kept hB3)).mono ?_
                rintro e w4 ⟨A4, c4, rfl, hS4, hb4⟩
                have hB4 := after_ hB3 hb4
                have hS3' := (hS3.below hb4).more hb4.size
                rw [M.offsTo_length]
                clear d3 hB3 hb4 hS3
                go_wp2_with fail
                refine (offers_ok HV3.out (by omega) (by omega) _ (t1.kept hB4)).mono ?_
                rintro e w5 ⟨A5, c5, rfl, hS5, hb5⟩
                have hB5 := after_ hB4 hb5
                have hSa := (hS3'.below hb5).more hb5.size
                have hSb := (hS4.below hb5).more hb5.size
                rw [M.offsTo_length]
                clear hB4 hb5 hS3' hS4
                obtain ⟨aa, rfl, _, ca⟩ := hSa.int_at (k := hN) (by rw [M.offsTo_length]; omega)
                rw [M.offsTo_at, M.offV_self HV1.out (by omega) (by omega)] at ca
                have q2 : (((hN : Int) + 1) != ((hN : Int) + 1)) = false := by simp
                have q3 : ((0 : Int) != 0) = false := by decide
                go_wp2_with fail
                clear ca
                go_loopw [25] (fun i wr => ∃ o nd : Nat, o ≤ hN + 1 ∧ i = .int .i64 o ∧ wr = w5.drewN nd) (fun i _ => hN + 1 - (intOf i).toNat)
                case atStart => exact ⟨0, 0, Nat.zero_le _, rfl, rfl⟩
                case round =>
                  obtain ⟨o, nd, ho, rfl, rfl⟩ := hrel
                  by_cases hlo : o ≤ hN
                  · obtain ⟨aa', ea, _, ca⟩ := hSa.int_at (k := o) (by rw [M.offsTo_length]; omega)
                    obtain rfl : aa = aa' := Option.some.inj ea
                    obtain ⟨ab, rfl, _, cb⟩ := hSb.int_at (k := o) (by rw [M.offsTo_length]; omega)
                    obtain ⟨ac, rfl, _, cc⟩ := hS5.int_at (k := o) (by rw [M.offsTo_length]; omega)
                    rw [M.offsTo_at] at ca cb cc
                    have f1 := M.offV_bd (hN : Int) (o : Int) HV1.out
                    have f2 := M.offV_base (b' := more) (hN : Int) (o : Int) HV1.out (by omega) (by omega)
                    have f3 := M.offV_vol (hN : Int) (o : Int) HV1.out
                    clear ea
                    by_cases ho0 : 0 < o
                    · obtain ⟨aa', ea, _, cp⟩ := hSa.int_at (k := o - 1) (by rw [M.offsTo_length]; omega)
                      obtain rfl : aa = aa' := Option.some.inj ea
                      rw [M.offsTo_at] at cp
                      have f4 := M.offV_step (h := (hN : Int)) (o := (o : Int)) HV1.out (by omega) (by omega) (by omega) (by omega)
                      rw [show ((o : Int) - 1) = ((o - 1 : Nat) : Int) from by omega] at f4
                      generalize M.offV vi base (hN : Int) (o : Int) = xa at *
                      generalize M.offV vi more (hN : Int) (o : Int) = xb at *
                      generalize M.offV 1000000 base (hN : Int) (o : Int) = xc at *
                      generalize M.offV vi base (hN : Int) ((o - 1 : Nat) : Int) = xp at *
                      clear ea
                      have r1 : decide (xa < 0) = false := by simp; omega
                      have r2 : decide (base < xa) = false := by simp; omega
                      have r3 : decide (xb < xa) = false := by simp; omega
                      have r4 : decide (xc < xa) = false := by simp; omega
                      have r5 : decide (xp < xa) = false := by simp; omega
                      clear f1 f2 f3 f4
                      go_wp2_with fail
                      go_quiet (fail)
                      go_wp2_with fail
                      go_roundw
                      case rel => exact ⟨o + 1, _, by omega, by go_num, rfl⟩
                      case measure => simp [intOf]; omega
                    · have r0 : decide (0 < o) = false := by simp; omega
                      generalize M.offV vi base (hN : Int) (o : Int) = xa at *
                      generalize M.offV vi more (hN : Int) (o : Int) = xb at *
                      generalize M.offV 1000000 base (hN : Int) (o : Int) = xc at *
                      have r1 : decide (xa < 0) = false := by simp; omega
                      have r2 : decide (base < xa) = false := by simp; omega
                      have r3 : decide (xb < xa) = false := by simp; omega
                      have r4 : decide (xc < xa) = false := by simp; omega
                      clear f1 f2 f3 ho0
                      go_wp2_with fail
                      go_quiet (fail)
                      go_wp2_with fail
                      go_roundw
                      case rel => exact ⟨o + 1, _, by omega, by go_num, rfl⟩
                      case measure => simp [intOf]; omega
                  · go_wp2_with fail
                    go_roundw
                    case rel => exact ⟨k + 1, hlt, by go_num, below_drewN hB5 nd⟩
                    case measure => simp [intOf]; omega
              · have hBw := after_ hb1 hB
                go_wp2_with fail
                refine (known_any _ tB).mono ?_
                rintro e w6 ⟨rfl, hb⟩
                go_wp2_with fail
                go_ret
                exact ⟨rfl, after_ hBw hb⟩
          · exact absurd hpos h0
        · have hrng' : base < 0 ∨ more < base ∨ 1000000000 < more ∨ home < 1 ∨ 3 < home := by omega
          clear hrng
          by_cases h0 : 0 < xs.length
          · obtain rfl := hmx.out h0
            have q1 : ((1000000 : Int) != 1000000) = false := by decide
            go_wp2_with fail
            all_goals
              refine (known_any _ tB).mono ?_
              rintro e w6 ⟨rfl, hb⟩
              go_wp2_with fail
              go_ret
              exact ⟨rfl, after_ hBw hb⟩
          · go_wp2_with fail
            all_goals
              refine (known_any _ tB).mono ?_
              rintro e w6 ⟨rfl, hb⟩
              go_wp2_with fail
              go_ret
              exact ⟨rfl, after_ hBw hb⟩

theorem scoreHolds_walk (A : Option Addr) (c : Nat) (xs : List Wt) (base more home : Int) (w : World) (ht : Tab w) (ha : Sl 3 wcell w w.heap.size A xs) (lx : xs.length ≤ 9223372036854775807) :
    Calls Tryd.prog 8 #[.slice A xs.length c, .int .i64 base, .int .i64 more, .int .i64 home] w (LawTrue w) := by
  by_cases hpos : 0 < xs.length
  · exact scoreHolds_pos A c xs base more home w ht ha lx hpos
  · obtain rfl : xs = [] := by
      cases xs with
      | nil => rfl
      | cons x xs => exact absurd (by simp) hpos
    exact scoreHolds_nil A c base more home w ht
end Go.Proofs.YtpbcbomlhcbfjaaDoor
