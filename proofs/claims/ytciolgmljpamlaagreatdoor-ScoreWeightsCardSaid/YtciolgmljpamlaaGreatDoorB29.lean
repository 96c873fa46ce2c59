/- A bundle of texts: ScList, ScVol. -/
import Derived.Test.YtciolgmljpamlaaGreatDoorB27
import Derived.Test.YtciolgmljpamlaaGreatDoorB28
/- The contract of the reference's ValidList. -/
section
namespace Go.Proofs.YtciolgmljpamlaaGreatDoor
open Go Go.RowKit
set_option maxRecDepth 100000

/-- A weight: station, links, people. -/
abbrev Wt : Type := Int × Int × Int
/-- The cells of a weight. -/
def wcell (x : Wt) (j : Nat) : Value := if j = 0 then .int .i64 x.1 else if j = 1 then .int .i64 x.2.1 else .int .i64 x.2.2

def M.wOk (x : Wt) : Bool := M.wtB x.1 x.2.1 x.2.2
/-- The first k weights are valid and their stations rise. -/
def M.okTo (xs : List Wt) (k : Nat) : Prop := ∀ i (h : i < xs.length), i < k → M.wOk xs[i] = true ∧ (∀ h0 : 0 < i, xs[i - 1].1 < xs[i].1)
/-- The whole list is valid. -/
noncomputable def M.okB (xs : List Wt) : Bool := @decide (M.okTo xs xs.length) (Classical.propDecidable _)
theorem M.okB_true {xs : List Wt} (h : M.okTo xs xs.length) : M.okB xs = true := @decide_eq_true _ (Classical.propDecidable _) h
theorem M.okB_false {xs : List Wt} (h : ¬ M.okTo xs xs.length) : M.okB xs = false := @decide_eq_false _ (Classical.propDecidable _) h
theorem M.okB_of {xs : List Wt} (h : M.okB xs = true) : M.okTo xs xs.length := @of_decide_eq_true _ (Classical.propDecidable _) h
theorem M.okTo_zero (xs : List Wt) : M.okTo xs 0 := fun _ _ h => absurd h (by omega)
theorem M.okTo_succ {xs : List Wt} {k : Nat} (hk : k < xs.length) (h : M.okTo xs k) (h1 : M.wOk xs[k] = true) (h2 : ∀ h0 : 0 < k, xs[k - 1].1 < xs[k].1) : M.okTo xs (k + 1) := by
  intro i hi hik
  by_cases e : i = k
  · subst e; exact ⟨h1, h2⟩
  · exact h i hi (by omega)
theorem M.not_ok1 {xs : List Wt} {k : Nat} (hk : k < xs.length) (h1 : M.wOk xs[k] = false) : M.okB xs = false :=
  M.okB_false fun h => by rw [(h k hk hk).1] at h1; cases h1
theorem M.not_ok2 {xs : List Wt} {k : Nat} (hk : k < xs.length) (h0 : 0 < k) (h1 : xs[k].1 ≤ xs[k - 1].1) : M.okB xs = false :=
  M.okB_false fun h => by have := (h k hk hk).2 h0; omega

end Go.Proofs.YtciolgmljpamlaaGreatDoor
end

/- The contract of score.Volumes. -/
section
namespace Go.Proofs.YtciolgmljpamlaaGreatDoor
open Go Go.RowKit
set_option maxRecDepth 100000

/-- The raw value of a weight. -/
def M.raw (x : Wt) : Int := M.rt (x.2.1 * x.2.2)
/-- The station and the raw value of a weight. -/
def M.rawOf (x : Wt) : Int × Int := (x.1, M.raw x)
/-- The greatest raw value of the first k weights. -/
def M.mostTo (xs : List Wt) : Nat → Int
  | 0 => 0
  | k + 1 => match xs[k]? with
    | some x => max (M.mostTo xs k) (M.raw x)
    | none => M.mostTo xs k
def M.most (xs : List Wt) : Int := M.mostTo xs xs.length
def M.vol (most : Int) (x : Wt) : Int := if most = 0 then 1000000 else max 1 (M.raw x * 1000000 / most)
noncomputable def M.vols (xs : List Wt) : List (Int × Int) := if M.okB xs then xs.map fun x => (x.1, M.vol (M.most xs) x) else []
noncomputable def M.volsE (xs : List Wt) : Int := if M.okB xs then 0 else 2
theorem M.mostTo_succ {xs : List Wt} {k : Nat} (h : k < xs.length) : M.mostTo xs (k + 1) = max (M.mostTo xs k) (M.raw xs[k]) := by
  simp only [M.mostTo, List.getElem?_eq_getElem h]

theorem M.max_if (a b : Int) : (if a < b then b else a) = max a b := by
  simp only [Int.max_def]; split <;> split <;> omega
theorem M.raw_bd {x : Wt} (h : M.wOk x = true) : 0 ≤ M.raw x ∧ M.raw x ≤ 3037000499 := by
  have := M.lp_bd (s := x.1) h
  exact ⟨M.rt_nonneg _, M.rt_bd this.1 (by omega)⟩
theorem M.mostTo_nonneg (xs : List Wt) (k : Nat) : 0 ≤ M.mostTo xs k := by
  induction k with
  | zero => exact Int.le_refl 0
  | succ k ih =>
    simp only [M.mostTo]
    split
    · omega
    · exact ih

theorem v_other0 {x y : Int × Int} (h : x.2 = y.2) : ∀ j', j' < 2 → j' ≠ 0 → vcellW x j' = vcellW y j' := by
  intro j' h1 h2
  obtain rfl : j' = 1 := by omega
  simp [vcellW, h]
theorem v_other1 {x y : Int × Int} (h : x.1 = y.1) : ∀ j', j' < 2 → j' ≠ 1 → vcellW x j' = vcellW y j' := by
  intro j' h1 h2
  obtain rfl : j' = 0 := by omega
  simp [vcellW, h]

theorem wtInfo : (Tryz.prog.info? 46).map (fun i => (i.zero, i.size, i.bytes)) = some (some (.agg #[.int .i64 0, .int .i64 0, .int .i64 0]), 3, 24) := by kernel_rfl
theorem volInfo : (Tryz.prog.info? 82).map (fun i => (i.zero, i.size, i.bytes)) = some (some (.agg #[.int .i64 0, .int .i64 0]), 2, 16) := by kernel_rfl

set_option maxHeartbeats 4000000 in
theorem volumes_any (A : Option Addr) (c : Nat) (xs : List Wt) (w : World) (ha : Sl 3 wcell w w.heap.size A xs) (lx : xs.length ≤ 1000) :
    Calls Tryz.prog 33 #[.slice A xs.length c] w (RetL 2 vcellW w (M.vols xs) (M.volsE xs)) := by
  go_enter Tryz.func33, Tryz.ntmps33
  go_wp2
  go_loopw [16] (fun i wr => ∃ k : Nat, k ≤ xs.length ∧ i = .int .i64 k ∧ Below w.heap.size w wr ∧ Hid (M.okTo xs k)) (fun i _ => xs.length - (intOf i).toNat)
  case atStart => exact ⟨0, Nat.zero_le _, rfl, Below.refl _ _, Lib.hid (M.okTo_zero xs)⟩
  case round =>
    obtain ⟨k, hk, rfl, hB, HT⟩ := hrel
    by_cases hlt : k < xs.length
    · obtain ⟨ad, rfl, hbl, c1, hc1⟩ := (ha.below hB).sp (by omega) hlt
      have c2 := hc1 1 (by omega) (by omega)
      have c3 := hc1 2 (by omega) (by omega)
      clear hc1
      obtain ⟨⟨s, l, p⟩, hX⟩ : ∃ x, xs[k] = x := ⟨_, rfl⟩
      rw [hX] at c1 c2 c3
      simp [wcell] at c1 c2 c3
      have HX := Lib.hid hX
      clear hX
      have hbl' : (ad.add (k * 3)).block < wr.heap.size := Nat.lt_of_lt_of_le hbl hB.size
      have hsz : wr.heap.size < (wr.alloc (.cells #[.int .i64 s, .int .i64 l, .int .i64 p] 46)).heap.size := by simp
      have d0 := hB.alloc hB.size (.cells #[.int .i64 s, .int .i64 l, .int .i64 p] 46)
      have d1 : (wr.alloc (.cells #[.int .i64 s, .int .i64 l, .int .i64 p] 46)).cell? ⟨wr.heap.size, 0, none⟩ = some (.int .i64 s) := by go_simp
      have d2 : (wr.alloc (.cells #[.int .i64 s, .int .i64 l, .int .i64 p] 46)).cell? ⟨wr.heap.size, 1, none⟩ = some (.int .i64 l) := by go_simp
      have d3 : (wr.alloc (.cells #[.int .i64 s, .int .i64 l, .int .i64 p] 46)).cell? ⟨wr.heap.size, 2, none⟩ = some (.int .i64 p) := by go_simp
      go_wp2
      clear c1 c2 c3
      generalize wr.alloc (.cells #[.int .i64 s, .int .i64 l, .int .i64 p] 46) = W at *
      generalize wr.heap.size = g at *
      cases hv : M.wtB s l p
      · have fin : Hid (M.vols xs = [] ∧ M.volsE xs = 2) := Lib.hid (by simp [M.vols, M.volsE, M.not_ok1 hlt (by rw [HX.out]; exact hv)])
        refine wp_region_kept W.heap.size W (by kernel_rfl) (by kernel_rfl) (Below.refl _ _) ?_
        repeat (go_big_quiet_step ((go_at_call 85; exact Kept.calls (Nat.le_refl _) (valid_eq hv _))))
        refine wpQuiet_nil ?_
        rintro _ ⟨⟨w1, hb1⟩, rfl⟩
        go_wp2
        go_ret2
        rw [fin.out.1, fin.out.2]
        exact RetL.none (after_ d0 hb1)
      · by_cases h0 : 0 < k
        · obtain ⟨ad', e, hbl2, c4, _⟩ := (ha.below d0).sp (k := k - 1) (by omega) (by omega)
          obtain rfl : ad = ad' := Option.some.inj e
          have hbl3 : (ad.add ((k - 1) * 3)).block < W.heap.size := Nat.lt_of_lt_of_le hbl2 d0.size
          obtain ⟨⟨s', l', p'⟩, hX'⟩ : ∃ x, xs[k - 1] = x := ⟨_, rfl⟩
          rw [hX'] at c4
          simp [wcell] at c4
          have HX' := Lib.hid hX'
          clear hX' e
          by_cases hle : s ≤ s'
          · have fin : Hid (M.vols xs = [] ∧ M.volsE xs = 2) := Lib.hid (by simp [M.vols, M.volsE, M.not_ok2 hlt h0 (by rw [HX.out, HX'.out]; exact hle)])
            refine wp_region_kept W.heap.size W (by kernel_rfl) (by kernel_rfl) (Below.refl _ _) ?_
            repeat (go_big_quiet_step ((go_at_call 85; exact Kept.calls (Nat.le_refl _) (valid_eq hv _))))
            refine wpQuiet_nil ?_
            rintro _ ⟨⟨w1, hb1⟩, rfl⟩
            go_wp2
            go_ret2
            rw [fin.out.1, fin.out.2]
            exact RetL.none (after_ d0 hb1)
          · have hle' : decide (s ≤ s') = false := by simp; omega
            have HN := Lib.hid hle
            clear hle
            refine wp_region_kept W.heap.size W (by kernel_rfl) (by kernel_rfl) (Below.refl _ _) ?_
            repeat (go_big_quiet_step ((go_at_call 85; exact Kept.calls (Nat.le_refl _) (valid_eq hv _))))
            refine wpQuiet_nil ?_
            rintro _ ⟨⟨w1, hb1⟩, rfl⟩
            go_wp2
            go_roundw
            case rel => exact ⟨k + 1, hlt, by go_num, after_ d0 hb1, Lib.hid (M.okTo_succ hlt HT.out (by rw [HX.out]; exact hv) (fun _ => by have := HN.out; rw [HX.out, HX'.out]; show s' < s; omega))⟩
            case measure => simp [intOf]; omega
        · have hk0 : decide (0 < k) = false := by simp; omega
          have HN := Lib.hid h0
          clear h0
          refine wp_region_kept W.heap.size W (by kernel_rfl) (by kernel_rfl) (Below.refl _ _) ?_
          repeat (go_big_quiet_step ((go_at_call 85; exact Kept.calls (Nat.le_refl _) (valid_eq hv _))))
          refine wpQuiet_nil ?_
          rintro _ ⟨⟨w1, hb1⟩, rfl⟩
          go_wp2
          go_roundw
          case rel => exact ⟨k + 1, hlt, by go_num, after_ d0 hb1, Lib.hid (M.okTo_succ hlt HT.out (by rw [HX.out]; exact hv) (fun h => absurd h HN.out))⟩
          case measure => simp [intOf]; omega
    · have hkl : k = xs.length := by omega
      have HO : Hid (M.okTo xs xs.length) := Lib.hid (by rw [← hkl]; exact HT.out)
      clear hkl HT
      obtain ⟨i0, hi, hz0, hz1, hz2⟩ := info_parts volInfo
      have Hi := Lib.hid hi; have Hz0 := Lib.hid hz0; have Hz1 := Lib.hid hz1; have Hz2 := Lib.hid hz2
      clear hi hz0 hz1 hz2
      have hgw : w.heap.size ≤ wr.heap.size := hB.size
      go_wp2_with (at_make; refine wpList_make_full _ rfl _ _ 75 rfl wr.heap.size 82 i0 _ 2 Tryz.underlying75 Hi.out Hz0.out Hz1.out .i64 .i64 _ _ xs.length rfl rfl rfl rfl (by rw [Hz2.out]; omega) (by unfold maxLen; omega) (Nat.le_refl _) ?_; intro w2 hown hg)
      have em := made_flat (cell := vcellW) (size := 2) (x0 := ((0 : Int), (0 : Int))) (by decide) (Value.agg #[.int .i64 0, .int .i64 0]).cells rfl xs.length
      rw [em] at hown
      clear em
      have hB2 : Below wr.heap.size wr w2 := (Below.refl _ _).grown hg (Nat.le_refl _) (by simp)
      have hBw : Below w.heap.size w w2 := after_ hB hB2
      clear hg
      have hown0 : w2.ownsRow wr.heap.size 82 2 (.slice (some ⟨wr.heap.size, 0, none⟩) xs.length xs.length) xs.length (flat 2 vcellW (mixTo M.rawOf (fun _ => (0, 0)) xs 0)) := by
        rw [mixTo_zero, List.map_const']; exact hown
      clear hown
      generalize wr.heap.size = g at *
      go_loopw [45, 7] (fun i m wq => ∃ k : Nat, k ≤ xs.length ∧ i = .int .i64 k ∧ m = .int .i64 (M.mostTo xs k) ∧ Below w.heap.size w wq ∧ wq.ownsRow g 82 2 (.slice (some ⟨g, 0, none⟩) xs.length xs.length) xs.length (flat 2 vcellW (mixTo M.rawOf (fun _ => (0, 0)) xs k))) (fun i _ _ => xs.length - (intOf i).toNat)
      case atStart => exact ⟨0, Nat.zero_le _, rfl, rfl, hBw, hown0⟩
      case round =>
        obtain ⟨k, hk, rfl, rfl, hB, hown⟩ := hrel
        by_cases hlt : k < xs.length
        · obtain ⟨ad, rfl, hbl, c1, hc1⟩ := (ha.below hB).sp (by omega) hlt
          have c2 := hc1 1 (by omega) (by omega)
          have c3 := hc1 2 (by omega) (by omega)
          clear hc1
          have hok := (HO.out k hlt hlt).1
          obtain ⟨⟨s, l, p⟩, hX⟩ : ∃ x, xs[k] = x := ⟨_, rfl⟩
          rw [hX] at c1 c2 c3 hok
          simp [wcell] at c1 c2 c3
          have HX := Lib.hid hX
          have HR : Hid (M.rawV s l p = M.raw (s, l, p) ∧ M.wtE s l p = 0) := Lib.hid (by
            have : M.wtB s l p = true := hok
            simp [M.rawV, M.wtE, this, M.raw])
          clear hX hok
          have hsz : wr.heap.size < (wr.alloc (.cells #[.int .i64 s, .int .i64 l, .int .i64 p] 46)).heap.size := by simp
          have d0 := hB.alloc hB.size (.cells #[.int .i64 s, .int .i64 l, .int .i64 p] 46)
          have d1 : (wr.alloc (.cells #[.int .i64 s, .int .i64 l, .int .i64 p] 46)).cell? ⟨wr.heap.size, 0, none⟩ = some (.int .i64 s) := by go_simp
          have o1 := hown.alloc (.cells #[.int .i64 s, .int .i64 l, .int .i64 p] 46)
          go_wp2_with fail
          refine (raw_any s l p _).mono ?_
          rintro e w3 ⟨rfl, hb⟩
          rw [HR.out.1, HR.out.2]
          clear c1 c2 c3
          generalize wr.alloc (.cells #[.int .i64 s, .int .i64 l, .int .i64 p] 46) = W at *
          generalize wr.heap.size = q at *
          have e1 : w3.cell? ⟨q, 0, none⟩ = some (.int .i64 s) := (hb.cell (p := ⟨q, 0, none⟩) hsz).trans d1
          have o2 := own_below o1 hb
          have dB := after_ d0 hb
          clear o1 d1 d0 hown
          obtain ⟨r, hr⟩ : ∃ r, M.raw (s, l, p) = r := ⟨_, rfl⟩
          rw [hr]
          have HRR := Lib.hid hr
          clear hr
          have hkm : k < (mixTo M.rawOf (fun _ => ((0 : Int), (0 : Int))) xs k).length := by rw [mixTo_length]; exact hlt
          obtain ⟨f1, f2⟩ := own_at o2 hkm (j := 0) (by decide)
          obtain ⟨f3, f4⟩ := own_at o2 hkm (j := 1) (by decide)
          rw [mixTo_at hlt hkm] at f1 f3
          have s1 := own_set o2 hkm (j := 0) (y := (s, 0)) (u := .int .i64 s) (by decide) rfl (by rw [mixTo_at hlt hkm]; exact v_other0 rfl)
          have s2 := own_set s1 (k := k) (by rw [List.length_set]; exact hkm) (j := 1) (y := (s, r)) (u := .int .i64 r) (by decide) rfl (by rw [List.getElem_set_self]; exact v_other1 rfl)
          rw [List.set_set] at s2
          have HS := Lib.hid s2
          clear s1 s2
          simp [vcellW] at f1 f3
          simp only [Nat.add_zero] at f1 f2
          go_wp2_with fail
          have HF : Hid (M.rawOf xs[k] = (s, r)) := Lib.hid (by rw [HX.out]; unfold M.rawOf; rw [HRR.out])
          have HM : Hid (M.mostTo xs (k + 1) = max (M.mostTo xs k) r) := Lib.hid (by rw [M.mostTo_succ hlt, HX.out, HRR.out])
          go_roundw
          case rel =>
            refine ⟨k + 1, hlt, by go_num, ?_, (dB.setCell (p := ⟨g, _, none⟩) hgw _).setCell (p := ⟨g, _, none⟩) hgw _, ?_⟩
            · rw [HM.out, M.max_if]
            · have := HS.out
              rw [← HF.out, mixTo_succ hlt] at this
              exact this
          case measure => simp [intOf]; omega
        · have hkl : k = xs.length := by omega
          have o3 : wr.ownsRow g 82 2 (.slice (some ⟨g, 0, none⟩) xs.length xs.length) xs.length (flat 2 vcellW (mixTo (fun x => (x.1, M.vol (M.most xs) x)) M.rawOf xs 0)) := by
            rw [mixTo_zero]
            have := hown
            rw [hkl, mixTo_all] at this
            exact this
          have HM : Hid (M.mostTo xs k = M.most xs) := Lib.hid (by rw [hkl]; rfl)
          clear hkl hown
          rw [HM.out]
          have hm0 : 0 ≤ M.most xs := M.mostTo_nonneg _ _
          generalize hmo : M.most xs = mo at *
          have HMo := Lib.hid hmo
          clear hmo HM
          go_wp2_with fail
          go_loopw [68] (fun i wr => ∃ k : Nat, k ≤ xs.length ∧ i = .int .i64 k ∧ Below w.heap.size w wr ∧ wr.ownsRow g 82 2 (.slice (some ⟨g, 0, none⟩) xs.length xs.length) xs.length (flat 2 vcellW (mixTo (fun x => (x.1, M.vol mo x)) M.rawOf xs k))) (fun i _ => xs.length - (intOf i).toNat)
          case atStart => exact ⟨0, Nat.zero_le _, rfl, hB, o3⟩
          case round =>
            clear o3 hB
            obtain ⟨k, hk, rfl, hB, hown⟩ := hrel
            by_cases hlt : k < xs.length
            · have hok := (HO.out k hlt hlt).1
              have hkm : k < (mixTo (fun x => (x.1, M.vol mo x)) M.rawOf xs k).length := by rw [mixTo_length]; exact hlt
              obtain ⟨r0, r1⟩ := M.raw_bd hok
              obtain ⟨s, hs⟩ : ∃ s, xs[k].1 = s := ⟨_, rfl⟩
              obtain ⟨r, hr⟩ : ∃ r, M.raw xs[k] = r := ⟨_, rfl⟩
              rw [hr] at r0 r1
              have HS := Lib.hid hs
              have HR := Lib.hid hr
              have HF : Hid (M.rawOf xs[k] = (s, r)) := Lib.hid (by unfold M.rawOf; rw [hs, hr])
              clear hs hr hok
              obtain ⟨f1, _⟩ := own_at hown hkm (j := 0) (by decide)
              obtain ⟨f3, f4⟩ := own_at hown hkm (j := 1) (by decide)
              rw [mixTo_at hlt hkm, HF.out] at f1 f3
              simp [vcellW] at f1 f3
              have o1 := hown.alloc (.cells #[.int .i64 s, .int .i64 r] 82)
              have d0 := hB.alloc hB.size (.cells #[.int .i64 s, .int .i64 r] 82)
              obtain ⟨g3, g4⟩ := own_at o1 hkm (j := 1) (by decide)
              have d1 : (wr.alloc (.cells #[.int .i64 s, .int .i64 r] 82)).cell? ⟨wr.heap.size, 1, none⟩ = some (.int .i64 r) := by go_simp
              rw [mixTo_at hlt hkm, HF.out] at g3
              simp [vcellW] at g3
              have glt := (own_lt hown).2
              by_cases hz : mo = 0
              · have hz' : (mo == 0) = true := by simp [hz]
                have HV : Hid (M.vol mo xs[k] = 1000000) := Lib.hid (by simp [M.vol, hz])
                clear hz
                have es : (mixTo (fun x => (x.1, M.vol mo x)) M.rawOf xs k).set k (s, 1000000) = mixTo (fun x => (x.1, M.vol mo x)) M.rawOf xs (k + 1) := by
                  rw [← HS.out, ← HV.out]; exact mixTo_succ (h := fun x => (x.1, M.vol mo x)) hlt
                have s1 := own_set hown hkm (j := 1) (y := (s, 1000000)) (u := .int .i64 1000000) (by decide) rfl (by rw [mixTo_at hlt hkm, HF.out]; exact v_other1 rfl)
                rw [es] at s1
                have HS1 := Lib.hid s1
                clear s1 es
                go_wp2_with fail
                go_roundw
                case rel =>
                  exact ⟨k + 1, hlt, by go_num, (hB.setCell (p := ⟨g, _, none⟩) hgw _).alloc (by simpa using hB.size) _, HS1.out.alloc _⟩
                case measure => simp [intOf]; omega
              · have hz' : (mo == 0) = false := by simp [hz]
                have hm1 : 1 ≤ mo := by omega
                have HV : Hid (M.vol mo xs[k] = max 1 (r * 1000000 / mo)) := Lib.hid (by unfold M.vol; rw [if_neg hz, HR.out])
                clear hz
                have es : (mixTo (fun x => (x.1, M.vol mo x)) M.rawOf xs k).set k (s, max 1 (r * 1000000 / mo)) = mixTo (fun x => (x.1, M.vol mo x)) M.rawOf xs (k + 1) := by
                  rw [← HS.out, ← HV.out]; exact mixTo_succ (h := fun x => (x.1, M.vol mo x)) hlt
                have s1 := own_set hown hkm (j := 1) (y := (s, max 1 (r * 1000000 / mo))) (u := .int .i64 (max 1 (r * 1000000 / mo))) (by decide) rfl (by rw [mixTo_at hlt hkm, HF.out]; exact v_other1 rfl)
                rw [es] at s1
                have HS1 := Lib.hid s1
                clear s1 es
                go_wp2_with fail
                go_roundw
                case rel =>
                  rw [M.max_if]
                  exact ⟨k + 1, hlt, by go_num, (hB.setCell (p := ⟨g, _, none⟩) hgw _).alloc (by simpa using hB.size) _, HS1.out.alloc _⟩
                case measure => simp [intOf]; omega
            · have hkl : k = xs.length := by omega
              have HK := Lib.hid hkl
              have HE : Hid (M.vols xs = mixTo (fun x => (x.1, M.vol mo x)) M.rawOf xs k ∧ M.volsE xs = 0) := Lib.hid (by
                have := M.okB_true HO.out
                rw [hkl, mixTo_all]
                simp [M.vols, M.volsE, this, HMo.out])
              clear hkl
              go_wp2_with fail
              go_ret2
              rw [HE.out.1, HE.out.2]
              exact RetL.of (by decide) hown hB
end Go.Proofs.YtciolgmljpamlaaGreatDoor
end
