/- The contract of the reference's ValidList. -/
import Derived.Test.YtpbcbomlhcbfjaaDoorRaw
import Derived.Test.YtpbcbomlhcbfjaaDoorSame
namespace Go.Proofs.YtpbcbomlhcbfjaaDoor
open Go Go.RowKit

/-- A weight: station, links, people. -/
abbrev Wt : Type := Int × Int × Int
/-- The cells of a weight. -/
def wcell (x : Wt) (j : Nat) : Value := if j = 0 then .int .i64 x.1 else if j = 1 then .int .i64 x.2.1 else .int .i64 x.2.2

def M.wOk (x : Wt) : Bool := M.wtB x.1 x.2.1 x.2.2
/-- The first k weights are valid and their stations rise. -/
def M.okTo (xs : List Wt) (k : Nat) : Prop := ∀ i (h : i < xs.length), i < k → M.wOk xs[i] = true ∧ (∀ h0 : 0 < i, xs[i - 1].1 < xs[i].1)
/-- The whole list is valid. -/
noncomputable def M.okB (xs : List Wt) : Bool := @decide (M.okTo xs xs.length) (Classical.propDecidable _)
theorem M.okB_true {xs : List Wt} (h : M.okTo xs xs.length) : M.okB xs = true := @decide_eq_true _ (Classical.propDecidable _) h
theorem M.okB_false {xs : List Wt} (h : ¬ M.okTo xs xs.length) : M.okB xs = false := @decide_eq_false _ (Classical.propDecidable _) h
theorem M.okB_of {xs : List Wt} (h : M.okB xs = true) : M.okTo xs xs.length := @of_decide_eq_true _ (Classical.propDecidable _) h
theorem M.okTo_zero (xs : List Wt) : M.okTo xs 0 := fun _ _ h => absurd h (by omega)
theorem M.okTo_succ {xs : List Wt} {k : Nat} (hk : k < xs.length) (h : M.okTo xs k) (h1 : M.wOk xs[k] = true) (h2 : ∀ h0 : 0 < k, xs[k - 1].1 < xs[k].1) : M.okTo xs (k + 1) := by
  intro i hi hik
  by_cases e : i = k
  · subst e; exact ⟨h1, h2⟩
  · exact h i hi (by omega)
theorem M.not_ok1 {xs : List Wt} {k : Nat} (hk : k < xs.length) (h1 : M.wOk xs[k] = false) : M.okB xs = false :=
  M.okB_false fun h => by rw [(h k hk hk).1] at h1; cases h1
theorem M.not_ok2 {xs : List Wt} {k : Nat} (hk : k < xs.length) (h0 : 0 < k) (h1 : xs[k].1 ≤ xs[k - 1].1) : M.okB xs = false :=
  M.okB_false fun h => by have := (h k hk hk).2 h0; omega

set_option maxHeartbeats 1000000 in
theorem validList_any (A : Option Addr) (c : Nat) (xs : List Wt) (w : World) (ha : Sl 3 wcell w w.heap.size A xs) (lx : xs.length ≤ 9223372036854775807) :
    Calls Tryd.prog 26 #[.slice A xs.length c] w fun e w' => e = .returned (.bool (M.okB xs)) ∧ Below w.heap.size w w' := by
  go_enter Tryd.func26, Tryd.ntmps26
  go_wp2
  go_loopw [3] (fun i wr => ∃ k : Nat, k ≤ xs.length ∧ i = .int .i64 k ∧ Below w.heap.size w wr ∧ Hid (M.okTo xs k)) (fun i _ => xs.length - (intOf i).toNat)
  case atStart => exact ⟨0, Nat.zero_le _, rfl, Below.refl _ _, Lib.hid (M.okTo_zero xs)⟩
  case round =>
    obtain ⟨k, hk, rfl, hB, HT⟩ := hrel
    by_cases hlt : k < xs.length
    · obtain ⟨ad, rfl, hbl, c1, hc1⟩ := (ha.below hB).sp (by omega) hlt
      have c2 := hc1 1 (by omega) (by omega)
      have c3 := hc1 2 (by omega) (by omega)
      clear hc1
      obtain ⟨⟨s, l, p⟩, hX⟩ : ∃ x, xs[k] = x := ⟨_, rfl⟩
      rw [hX] at c1 c2 c3
      simp [wcell] at c1 c2 c3
      have HX := Lib.hid hX
      clear hX
      have hbl' : (ad.add (k * 3)).block < wr.heap.size := Nat.lt_of_lt_of_le hbl hB.size
      cases hv : M.wtB s l p
      · have fin := Lib.hid (M.not_ok1 hlt (by rw [HX.out]; exact hv))
        go_wp2
        refine wp_region_kept wr.heap.size wr (by kernel_rfl) (by kernel_rfl) (Below.refl _ _) ?_
        repeat (go_big_quiet_step ((go_at_call 25; exact Kept.calls (Nat.le_refl _) (refValid_eq hv _))))
        refine wpQuiet_nil ?_
        rintro _ ⟨⟨w1, hb1⟩, rfl⟩
        go_wp2
        go_ret
        exact ⟨ret_bool (a := false) fin.out.symm, after_ hB hb1⟩
      · by_cases h0 : 0 < k
        · obtain ⟨ad', e, hbl2, c4, _⟩ := (ha.below hB).sp (k := k - 1) (by omega) (by omega)
          obtain rfl : ad = ad' := Option.some.inj e
          have hbl3 : (ad.add ((k - 1) * 3)).block < wr.heap.size := Nat.lt_of_lt_of_le hbl2 hB.size
          obtain ⟨⟨s', l', p'⟩, hX'⟩ : ∃ x, xs[k - 1] = x := ⟨_, rfl⟩
          rw [hX'] at c4
          simp [wcell] at c4
          have HX' := Lib.hid hX'
          clear hX' e
          by_cases hle : s ≤ s'
          · have fin := Lib.hid (M.not_ok2 hlt h0 (by rw [HX.out, HX'.out]; exact hle))
            go_wp2
            refine wp_region_kept wr.heap.size wr (by kernel_rfl) (by kernel_rfl) (Below.refl _ _) ?_
            repeat (go_big_quiet_step ((go_at_call 25; exact Kept.calls (Nat.le_refl _) (refValid_eq hv _))))
            refine wpQuiet_nil ?_
            rintro _ ⟨⟨w1, hb1⟩, rfl⟩
            go_wp2
            go_ret
            exact ⟨ret_bool (a := false) fin.out.symm, after_ hB hb1⟩
          · have hle' : decide (s ≤ s') = false := by simp; omega
            have HN := Lib.hid hle
            clear hle
            go_wp2
            refine wp_region_kept wr.heap.size wr (by kernel_rfl) (by kernel_rfl) (Below.refl _ _) ?_
            repeat (go_big_quiet_step ((go_at_call 25; exact Kept.calls (Nat.le_refl _) (refValid_eq hv _))))
            refine wpQuiet_nil ?_
            rintro _ ⟨⟨w1, hb1⟩, rfl⟩
            go_wp2
            go_roundw
            case rel => exact ⟨k + 1, hlt, by go_num, after_ hB hb1, Lib.hid (M.okTo_succ hlt HT.out (by rw [HX.out]; exact hv) (fun _ => by have := HN.out; rw [HX.out, HX'.out]; show s' < s; omega))⟩
            case measure => simp [intOf]; omega
        · have hk0 : decide (0 < k) = false := by simp; omega
          have HN := Lib.hid h0
          clear h0
          go_wp2
          refine wp_region_kept wr.heap.size wr (by kernel_rfl) (by kernel_rfl) (Below.refl _ _) ?_
          repeat (go_big_quiet_step ((go_at_call 25; exact Kept.calls (Nat.le_refl _) (refValid_eq hv _))))
          refine wpQuiet_nil ?_
          rintro _ ⟨⟨w1, hb1⟩, rfl⟩
          go_wp2
          go_roundw
          case rel => exact ⟨k + 1, hlt, by go_num, after_ hB hb1, Lib.hid (M.okTo_succ hlt HT.out (by rw [HX.out]; exact hv) (fun h => absurd h HN.out))⟩
          case measure => simp [intOf]; omega
    · have hkl : k = xs.length := by omega
      have HK := Lib.hid hkl
      clear hkl
      go_wp2
      go_ret
      exact ⟨ret_bool (a := true) (M.okB_true (by rw [← HK.out]; exact HT.out)).symm, hB⟩
end Go.Proofs.YtpbcbomlhcbfjaaDoor
