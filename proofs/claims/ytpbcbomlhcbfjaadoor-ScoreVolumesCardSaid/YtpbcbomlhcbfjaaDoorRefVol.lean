/- The contract of the reference's Volumes. -/
import Derived.Test.YtpbcbomlhcbfjaaDoorVol
namespace Go.Proofs.YtpbcbomlhcbfjaaDoor
open Go Go.RowKit

theorem square_eq {n r : Int} (h : M.rt n = r) (w : World) (h0 : 0 ≤ n) (h1 : n ≤ 9223372036854775807) :
    Calls Tryd.prog 11 #[.int .i64 n] w fun e w' => e = .returned (.int .i64 r) ∧ w = w' := h ▸ square_any n w h0 h1

theorem v_one (x : Int × Int) (j : Nat) : (vcell x j).oneCell' = true := by unfold vcell; split <;> rfl

theorem M.vols_to {xs : List Wt} {k : Nat} (hk : k < xs.length) (mo : Int) : (xs.take (k + 1)).map (fun x => (x.1, M.vol mo x)) = (xs.take k).map (fun x => (x.1, M.vol mo x)) ++ [(xs[k].1, M.vol mo xs[k])] := by
  rw [take_snoc hk, List.map_append]; rfl

set_option maxHeartbeats 4000000 in
theorem refVolumes_any (A : Option Addr) (c : Nat) (xs : List Wt) (w : World) (ha : Sl 3 wcell w w.heap.size A xs) (lx : xs.length ≤ 1000) :
    Calls Tryd.prog 15 #[.slice A xs.length c] w (RetL 2 vcell w (M.vols xs) (M.volsE xs)) := by
  cases hok : M.okB xs
  · have fin : Hid (M.vols xs = [] ∧ M.volsE xs = 2) := Lib.hid (by simp [M.vols, M.volsE, hok])
    have HO := Lib.hid hok
    clear hok
    go_enter Tryd.func15, Tryd.ntmps15
    go_wp2_with fail
    refine (validList_any _ _ _ _ ha (by omega)).mono ?_
    rintro e w1 ⟨rfl, hb⟩
    rw [HO.out]
    go_wp2_with fail
    go_ret2
    rw [fin.out.1, fin.out.2]
    exact RetL.none hb
  · have HO := Lib.hid (M.okB_of hok)
    have HB := Lib.hid hok
    clear hok
    obtain ⟨i0, hi, hz0, hz1, hz2⟩ := info_parts volInfo
    have Hi := Lib.hid hi; have Hz0 := Lib.hid hz0; have Hz1 := Lib.hid hz1; have Hz2 := Lib.hid hz2
    clear hi hz0 hz1 hz2
    go_enter Tryd.func15, Tryd.ntmps15
    go_wp2_with fail
    refine (validList_any _ _ _ _ ha (by omega)).mono ?_
    rintro e w1 ⟨rfl, hB1⟩
    rw [HB.out]
    go_wp2_with fail
    go_loopw [4, 5] (fun m i wr => ∃ k : Nat, k ≤ xs.length ∧ i = .int .i64 k ∧ m = .int .i64 (M.mostTo xs k) ∧ Below w.heap.size w wr) (fun _ i _ => xs.length - (intOf i).toNat)
    case atStart => exact ⟨0, Nat.zero_le _, rfl, rfl, hB1⟩
    case round =>
      clear hB1
      obtain ⟨k, hk, rfl, rfl, hB⟩ := hrel
      by_cases hlt : k < xs.length
      · obtain ⟨ad, rfl, hbl, c1, hc1⟩ := (ha.below hB).sp (by omega) hlt
        have c2 := hc1 1 (by omega) (by omega)
        have c3 := hc1 2 (by omega) (by omega)
        have hok := (HO.out k hlt hlt).1
        clear hc1
        obtain ⟨⟨s, l, p⟩, hX⟩ : ∃ x, xs[k] = x := ⟨_, rfl⟩
        rw [hX] at c1 c2 c3 hok
        simp [wcell] at c1 c2 c3
        obtain ⟨b1, b2⟩ := M.lp_bd (s := s) hok
        obtain ⟨r, hr⟩ : ∃ r, M.rt (l * p) = r := ⟨_, rfl⟩
        have HM : Hid (M.mostTo xs (k + 1) = max (M.mostTo xs k) r) := Lib.hid (by rw [M.mostTo_succ hlt, hX]; show max _ (M.rt (l * p)) = _; rw [hr])
        have HR := Lib.hid hr
        have hbl' : (ad.add (k * 3)).block < wr.heap.size := Nat.lt_of_lt_of_le hbl hB.size
        clear hX hr hok
        go_wp2_with fail
        refine wp_region_kept wr.heap.size wr (by kernel_rfl) (by kernel_rfl) (Below.refl _ _) ?_
        repeat (go_big_quiet_step ((go_at_call 11; exact Kept.same (square_eq HR.out _ (by omega) (by omega)))))
        refine wpQuiet_nil ?_
        rintro w2 ⟨⟨_, hb2⟩, rfl⟩
        go_wp2_with fail
        go_roundw
        case rel => exact ⟨k + 1, hlt, by go_num, by rw [HM.out, M.max_if], after_ hB hb2⟩
        case measure => simp [intOf]; omega
      · have hkl : k = xs.length := by omega
        have HM : Hid (M.mostTo xs k = M.most xs) := Lib.hid (by rw [hkl]; rfl)
        clear hkl
        rw [HM.out]
        have hm0 : 0 ≤ M.most xs := M.mostTo_nonneg _ _
        have HV : Hid (M.vols xs = (xs.take xs.length).map (fun x => (x.1, M.vol (M.most xs) x)) ∧ M.volsE xs = 0) := Lib.hid (by simp [M.vols, M.volsE, HB.out])
        generalize M.most xs = mo at *
        clear HM
        go_wp2_with fail
        go_loopw [6, 7] (fun v i wr => ∃ k : Nat, k ≤ xs.length ∧ i = .int .i64 k ∧ Below w.heap.size w wr ∧ wr.ownsRow w.heap.size 42 2 v k (flat 2 vcell ((xs.take k).map (fun x => (x.1, M.vol mo x))))) (fun _ i _ => xs.length - (intOf i).toNat)
        case atStart => exact ⟨0, Nat.zero_le _, rfl, hB, own_nil _ _ _ _ _⟩
        case round =>
          clear hB
          obtain ⟨k, hk, rfl, hB, hown⟩ := hrel
          by_cases hlt : k < xs.length
          · obtain ⟨ad, rfl, hbl, c1, hc1⟩ := (ha.below hB).sp (by omega) hlt
            have c2 := hc1 1 (by omega) (by omega)
            have c3 := hc1 2 (by omega) (by omega)
            have hok := (HO.out k hlt hlt).1
            clear hc1
            obtain ⟨r0, r1⟩ := M.raw_bd hok
            obtain ⟨⟨s, l, p⟩, hX⟩ : ∃ x, xs[k] = x := ⟨_, rfl⟩
            rw [hX] at c1 c2 c3 hok r0 r1
            simp [wcell] at c1 c2 c3
            obtain ⟨b1, b2⟩ := M.lp_bd (s := s) hok
            obtain ⟨r, hr⟩ : ∃ r, M.rt (l * p) = r := ⟨_, rfl⟩
            have hr' : M.raw (s, l, p) = r := hr
            rw [hr'] at r0 r1
            have hbl' : (ad.add (k * 3)).block < wr.heap.size := Nat.lt_of_lt_of_le hbl hB.size
            have HL := Lib.hid (M.vols_to hlt mo)
            have HX := Lib.hid hX
            have HR := Lib.hid hr
            have HR' := Lib.hid hr'
            clear hX hr hr' hok
            by_cases hz : 0 < mo
            · have HV1 : Hid (M.vol mo (s, l, p) = max 1 (r * 1000000 / mo)) := Lib.hid (by unfold M.vol; rw [if_neg (by omega), HR'.out])
              go_wp2_with fail
              refine wp_region_kept wr.heap.size wr (by kernel_rfl) (by kernel_rfl) (Below.refl _ _) ?_
              repeat (go_big_quiet_step ((go_at_call 11; exact Kept.same (square_eq HR.out _ (by omega) (by omega)))))
              refine wpQuiet_nil ?_
              rintro w2 ⟨⟨_, hb2⟩, rfl⟩
              have d1 : w2.cell? (ad.add (k * 3)) = some (.int .i64 s) := (hb2.cell hbl').trans c1
              have hBe := after_ hB hb2
              have hown2 := own_below hown hb2
              clear c1 c2 c3 hown hB
              obtain ⟨y, hy⟩ : ∃ y, (if 1 < r * 1000000 / mo then r * 1000000 / mo else 1) = y := ⟨_, rfl⟩
              have HY : Hid (M.vol mo (s, l, p) = y) := Lib.hid (by rw [HV1.out, ← hy, M.max_if])
              rw [hy]
              clear hy
              go_wp2_with (at_builtin; refine wpList_push (w0 := w) (cell := vcell) (y := (s, y)) rfl _ _ _ rfl w.heap.size w.heap.size 42 i0 _ 16 Tryd.underlying35 Hi.out Hz0.out Hz1.out Hz2.out rfl (by decide) _ k _ rfl hown2 _ _ rfl _ rfl (v_one _) (by unfold maxLen; omega) (by omega) hBe.size (Nat.le_refl _) hBe ?_; intro v' w' hown' hb' _)
              go_roundw
              case rel => exact ⟨k + 1, hlt, by go_num, hb', by rw [HL.out, HX.out, HY.out]; exact hown'⟩
              case measure => simp [intOf]; omega
            · have hz' : ¬ (0 < mo) := hz
              have HY : Hid (M.vol mo (s, l, p) = 1000000) := Lib.hid (by unfold M.vol; rw [if_pos (by omega)])
              go_wp2_with (at_builtin; refine wpList_push (w0 := w) (cell := vcell) (y := (s, 1000000)) rfl _ _ _ rfl w.heap.size w.heap.size 42 i0 _ 16 Tryd.underlying35 Hi.out Hz0.out Hz1.out Hz2.out rfl (by decide) _ k _ rfl hown _ _ rfl _ rfl (v_one _) (by unfold maxLen; omega) (by omega) hB.size (Nat.le_refl _) hB ?_; intro v' w' hown' hb' _)
              go_roundw
              case rel => exact ⟨k + 1, hlt, by go_num, hb', by rw [HL.out, HX.out, HY.out]; exact hown'⟩
              case measure => simp [intOf]; omega
          · have hkl : k = xs.length := by omega
            have HK := Lib.hid hkl
            clear hkl
            go_wp2_with fail
            go_ret2
            rw [HV.out.1, HV.out.2, ← HK.out]
            exact RetL.of (by decide) hown hB
end Go.Proofs.YtpbcbomlhcbfjaaDoor
