/- The law package of layer 15: same, at; the program's Hit. -/
import Derived.Test.YtohkbblfcjmmnaaGreatDoorRef15b
namespace Go.Proofs.YtohkbblfcjmmnaaGreatDoor
open Go Go.RowKit
set_option maxRecDepth 100000

set_option maxHeartbeats 8000000 in
theorem same_any (A B : Option Addr) (ac bc : Nat) (a b : List Int) (w : World) (hA : Sl 1 icell w w.heap.size A a) (hB' : Sl 1 icell w w.heap.size B b) (ha : a.length ≤ 1000000) :
    Calls Tryz.prog 18 #[.slice A a.length ac, .slice B b.length bc] w fun e w' => e = .returned (.bool (decide (a = b))) ∧ Below w.heap.size w w' := by
  obtain ⟨r, hr⟩ : ∃ r, decide (a = b) = r := ⟨_, rfl⟩
  rw [hr]
  have HR := Lib.hid hr
  clear hr
  by_cases hl : a.length = b.length
  · have q : ((a.length : Int) != (b.length : Int)) = false := by simp; omega
    have HN : Hid (∀ k (h1 : k < a.length) (h2 : k < b.length), a[k] ≠ b[k] → false = r) := Lib.hid (fun k h1 h2 h => by
      rw [← HR.out]; symm
      rw [decide_eq_false_iff_not]
      intro e
      subst e
      exact h rfl)
    have HY : Hid ((∀ k (h1 : k < a.length) (h2 : k < b.length), a[k] = b[k]) → true = r) := Lib.hid (fun h => by
      rw [← HR.out]; symm
      rw [decide_eq_true_eq]
      exact List.ext_getElem hl h)
    go_enter Tryz.func18, Tryz.ntmps18
    go_wp2_with fail
    go_loopw [5] (fun i wr => ∃ k : Nat, k ≤ a.length ∧ i = .int .i64 k ∧ Below w.heap.size w wr ∧ Hid (∀ j (h1 : j < a.length) (h2 : j < b.length), j < k → a[j] = b[j])) (fun i _ => a.length - (intOf i).toNat)
    case atStart => exact ⟨0, Nat.zero_le _, rfl, Below.refl _ _, Lib.hid (fun j _ _ h => absurd h (by omega))⟩
    case round =>
      clear q
      obtain ⟨k, hk, rfl, hB, HK⟩ := hrel
      by_cases hlt : k < a.length
      · have hlt2 : k < b.length := by omega
        obtain ⟨la, rfl, hlb, a0⟩ := ((hA.below hB).more hB.size).one_at hlt
        obtain ⟨lb, rfl, hlb2, b0⟩ := ((hB'.below hB).more hB.size).one_at hlt2
        have l1 : (la.add k).block < wr.heap.size := by first | exact hlb | (rw [add_block]; exact hlb)
        have l2 : (lb.add k).block < wr.heap.size := by first | exact hlb2 | (rw [add_block]; exact hlb2)
        simp only [icell] at a0 b0
        have HNk := Lib.hid (HN.out k hlt hlt2)
        have HK2 : Hid (a[k] = b[k] → ∀ j (h1 : j < a.length) (h2 : j < b.length), j < k + 1 → a[j] = b[j]) := Lib.hid (fun h j h1 h2 h3 => by
          by_cases e : j = k
          · subst e; exact h
          · exact HK.out j h1 h2 (by omega))
        generalize a[k] = x at *
        generalize b[k] = y at *
        by_cases he : x = y
        · have q : (x != y) = false := by simp [he]
          have HK3 := Lib.hid (HK2.out he)
          clear he
          go_wp2_with fail
          refine wp_region_kept wr.heap.size wr (by kernel_rfl) (by kernel_rfl) (Below.refl _ _) ?_
          repeat (go_big_quiet_step (fail))
          refine wpQuiet_nil ?_
          rintro w5 ⟨⟨_, hb5⟩, rfl⟩
          go_wp2_with fail
          go_roundw
          case rel => exact ⟨k + 1, hlt, by go_num, after_ hB hb5, HK3⟩
          case measure => simp [intOf]; omega
        · have q : (x != y) = true := by simp [he]
          have HF := Lib.hid (HNk.out he)
          clear he
          go_wp2_with fail
          refine wp_region_kept wr.heap.size wr (by kernel_rfl) (by kernel_rfl) (Below.refl _ _) ?_
          repeat (go_big_quiet_step (fail))
          refine wpQuiet_nil ?_
          rintro w5 ⟨⟨_, hb5⟩, rfl⟩
          go_wp2_with fail
          go_ret
          exact ⟨ret_bool HF.out, after_ hB hb5⟩
      · have HF := Lib.hid (HY.out (fun j h1 h2 => HK.out j h1 h2 (by omega)))
        go_wp2_with fail
        go_ret
        exact ⟨ret_bool HF.out, hB⟩
  · have q : ((a.length : Int) != (b.length : Int)) = true := by simp; omega
    have HF : Hid (false = r) := Lib.hid (by
      rw [← HR.out]; symm
      rw [decide_eq_false_iff_not]
      intro e
      exact hl (by rw [e]))
    clear hl
    go_enter Tryz.func18, Tryz.ntmps18
    go_wp2_with fail
    go_ret
    exact ⟨ret_bool HF.out, Below.refl _ _⟩

/-- The station that at returns. -/
def M.mk15 (x pw : Int) : St := ⟨0, x, 0, pw, 20, List.replicate 16 0, 3, 20⟩

set_option maxHeartbeats 4000000 in
theorem at_ok (x pw : Int) (w : World) : Calls Tryz.prog 28 #[.int .i64 x, .int .i64 pw] w (RetSt w (M.mk15 x pw)) := by
  obtain ⟨V, HW, x0, hB, hs⟩ := boxes1 w #[.int .i64 0, .int .i64 0, .int .i64 0, .int .i64 0, .int .i64 0, .slice none 0 0, .int .i64 0, .int .i64 0] 28
  obtain ⟨i0, hi, hz0, hz1, hz2⟩ := info_parts intInfo
  have Hi := Lib.hid hi; have Hz0 := Lib.hid hz0; have Hz1 := Lib.hid hz1; have Hz2 := Lib.hid hz2
  have HS := Lib.hid hs
  clear hi hz0 hz1 hz2 hs
  have hV := HW.out
  go_enter Tryz.func28, Tryz.ntmps28
  go_wp2_with (at_make; refine wpList_make_full _ rfl _ _ 22 rfl V.heap.size 3 i0 _ 1 Tryz.underlying22 Hi.out Hz0.out Hz1.out .i64 .i64 _ _ 16 rfl rfl rfl rfl (by rw [Hz2.out]; omega) (by unfold maxLen; omega) (Nat.le_refl _) ?_; intro w2 hown hg2; clear hV; have em := made_flat (cell := icell) (size := 1) (x0 := (0 : Int)) (by decide) (Value.int .i64 0).cells rfl 16; rw [em] at hown; clear em; have hB2 : Below V.heap.size V w2 := (Below.refl _ _).grown hg2 (Nat.le_refl _) (by simp); have B2 := after_ hB hB2; have y0 := x0.below hB2; obtain ⟨d0, d1, d2, d3, d4, d5, d6, d7⟩ := y0.c8; have f0 := y0.frozen 0; have f1 := y0.frozen 1; have f2 := y0.frozen 2; have f3 := y0.frozen 3; have f4 := y0.frozen 4; have f5 := y0.frozen 5; have f6 := y0.frozen 6; have f7 := y0.frozen 7)
  refine bodyPost_ret (v := stv (M.mk15 x pw) (some ⟨V.heap.size, 0, none⟩) 16) ?_ rfl ⟨some ⟨V.heap.size, 0, none⟩, 16, rfl, ?_, ?_⟩
  · simp [results, Tryz.results28, go_sem, d0, d1, d2, d3, d4, d5, d6, d7, M.mk15]
  · refine own_base (base := V.heap.size) ?_ (by have := HS.out; omega)
    iterate 8 refine ownsRow_setCell_below ?_ (by dsimp only; have := HS.out; omega) _
    exact hown
  · iterate 8 refine Below.setCell ?_ (by dsimp only; omega) _
    exact B2
end Go.Proofs.YtohkbblfcjmmnaaGreatDoor
