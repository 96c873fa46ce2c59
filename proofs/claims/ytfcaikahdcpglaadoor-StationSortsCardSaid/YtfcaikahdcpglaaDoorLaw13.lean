/- The law package of layer 13: made, field, big. -/
import Derived.Test.YtfcaikahdcpglaaDoorFlat
namespace Go.Proofs.YtfcaikahdcpglaaDoor
open Go Go.RowKit
set_option maxRecDepth 100000

/-- The station that made returns. -/
def M.mk13 (id first : Int) : St := ⟨id, 5, 5, 100, 20, first :: List.replicate 15 0, 3, 20⟩

set_option maxHeartbeats 4000000 in
theorem made_ok (id first : Int) (w : World) : Calls Tryd.prog 30 #[.int .i64 id, .int .i64 first] w (RetSt w (M.mk13 id first)) := by
  obtain ⟨V, HW, x0, hB, hs⟩ := boxes1 w #[.int .i64 0, .int .i64 0, .int .i64 0, .int .i64 0, .int .i64 0, .slice none 0 0, .int .i64 0, .int .i64 0] 28
  obtain ⟨i0, hi, hz0, hz1, hz2⟩ := info_parts intInfo
  have Hi := Lib.hid hi; have Hz0 := Lib.hid hz0; have Hz1 := Lib.hid hz1; have Hz2 := Lib.hid hz2
  have HS := Lib.hid hs
  clear hi hz0 hz1 hz2 hs
  have hV := HW.out
  go_enter Tryd.func30, Tryd.ntmps30
  go_wp2_with (at_make; refine wpList_make_full _ rfl _ _ 22 rfl V.heap.size 3 i0 _ 1 Tryd.underlying22 Hi.out Hz0.out Hz1.out .i64 .i64 _ _ 16 rfl rfl rfl rfl (by rw [Hz2.out]; omega) (by unfold maxLen; omega) (Nat.le_refl _) ?_; intro w2 hown hg2; clear hV; have em := made_flat (cell := icell) (size := 1) (x0 := (0 : Int)) (by decide) (Value.int .i64 0).cells rfl 16; rw [em] at hown; clear em; have hB2 : Below V.heap.size V w2 := (Below.refl _ _).grown hg2 (Nat.le_refl _) (by simp); have B2 := after_ hB hB2; have y0 := x0.below hB2; obtain ⟨U, HU, u0, hBU, -⟩ := boxes1 w2 #[.int .i64 id, .int .i64 5, .int .i64 5, .int .i64 100, .int .i64 20, .slice (some ⟨V.heap.size, 0, none⟩) 16 16, .int .i64 3, .int .i64 20] 28; have hU := HU.out; obtain ⟨b0, b1, b2, b3, b4, b5, b6, b7⟩ := u0.c8; have oU := own_below hown hBU; have h16 : 0 < (List.replicate 16 (0 : Int)).length := (by simp); obtain ⟨p1, p2⟩ := own_at oU h16 (j := 0) (by decide); simp only [Nat.mul_one, Nat.add_zero, icell] at p1 p2; have hlt := (own_lt hown).2; have BU := after_ B2 hBU; have z0 := y0.below hBU; have hvw : w.heap.size ≠ V.heap.size := (by have := HS.out; omega); have zz := z0.set_other (p := ⟨V.heap.size, 0, none⟩) hvw (.int .i64 first); obtain ⟨d0, d1, d2, d3, d4, d5, d6, d7⟩ := zz.c8; have f0 := z0.frozen 0; have f1 := z0.frozen 1; have f2 := z0.frozen 2; have f3 := z0.frozen 3; have f4 := z0.frozen 4; have f5 := z0.frozen 5; have f6 := z0.frozen 6; have f7 := z0.frozen 7; have uu := u0.set_other (p := ⟨V.heap.size, 0, none⟩) (Nat.ne_of_gt hlt) (.int .i64 first); obtain ⟨k0, k1, k2, k3, k4, k5, k6, k7⟩ := uu.c8; have hst := own_set oU h16 (j := 0) (y := first) (u := .int .i64 first) (by decide) rfl (fun j' h1 h2 => absurd h1 (by omega)); simp only [Nat.mul_one, Nat.add_zero] at hst; have HST := Lib.hid hst; clear hst)
  refine bodyPost_ret (v := stv (M.mk13 id first) (some ⟨V.heap.size, 0, none⟩) 16) ?_ rfl ⟨some ⟨V.heap.size, 0, none⟩, 16, rfl, ?_, ?_⟩
  · simp [results, Tryd.results30, go_sem, d0, d1, d2, d3, d4, d5, d6, d7, M.mk13]
  · refine own_base (base := V.heap.size) ?_ (by have := HS.out; omega)
    iterate 8 refine ownsRow_setCell_below ?_ (by dsimp only; have := HS.out; omega) _
    exact HST.out
  · iterate 8 refine Below.setCell ?_ (by dsimp only; omega) _
    exact BU.setCell (p := ⟨V.heap.size, 0, none⟩) (by have := HS.out; dsimp only; omega) _

set_option maxHeartbeats 4000000 in
theorem lawField_any (W H : Int) (GA PA : Option Addr) (gc pc : Nat) (G P : List Int) (s : St) (A : Option Addr) (c : Nat) (cx cy want : Int) (w : World) (ht : Tab w) (hg : Sl 1 icell w w.heap.size GA G) (hp : Sl 1 icell w w.heap.size PA P) (hS : Sl 1 icell w w.heap.size A s.pat)
    (hok : M.okF W H G P s cx cy = true) (hw : M.field W G s cx cy = want) : Calls Tryd.prog 31 #[tv W H GA PA G.length gc P.length pc, stv s A c, .int .i64 cx, .int .i64 cy, .int .i64 want] w fun e w' => e = .returned (.bool true) ∧ Below w.heap.size w w' := by
  obtain ⟨V, HW, x0, x1, hB, -⟩ := boxes2 w #[.int .i64 W, .int .i64 H, .slice GA G.length gc, .slice PA P.length pc] 24 (stc s A c) 28
  have HO := Lib.hid hok
  have HWW := Lib.hid hw
  clear hok hw
  go_enter Tryd.func31, Tryd.ntmps31
  go_wp2_with fail
  rw [HW.out]
  refine (field_ok W H GA PA gc pc G P s A c cx cy V (ht.kept hB) ((hg.below hB).more hB.size) ((hp.below hB).more hB.size) ((hS.below hB).more hB.size) HO.out).mono ?_
  rintro e w1 ⟨rfl, hb1⟩
  rw [HWW.out]
  have q : (want == want) = true := by simp
  go_wp2_with fail
  go_ret
  exact ⟨rfl, after_ hB hb1⟩

def M.big13 (gl pl : Nat) (l : List St) : Bool := decide (300 < gl) || decide (300 < pl) || decide (8 < l.length) || l.any fun s => decide (20 < s.pat.length)

set_option maxHeartbeats 8000000 in
theorem big_any (W H : Int) (GA PA : Option Addr) (gc pc gl pl : Nat) (LA : Option Addr) (lc : Nat) (es : List SE) (w : World) (hL : Sl 8 secell w w.heap.size LA es) :
    Calls Tryd.prog 8 #[tv W H GA PA gl gc pl pc, .slice LA es.length lc] w fun e w' => e = .returned (.bool (M.big13 gl pl (es.map (·.s)))) ∧ Below w.heap.size w w' := by
  obtain ⟨V, HW, x0, hB, -⟩ := boxes1 w #[.int .i64 W, .int .i64 H, .slice GA gl gc, .slice PA pl pc] 24
  obtain ⟨r, hr⟩ : ∃ r, M.big13 gl pl (es.map (·.s)) = r := ⟨_, rfl⟩
  have HR := Lib.hid hr
  rw [hr]
  clear hr
  by_cases h1 : 300 < (gl : Int)
  · have q1 : decide (300 < (gl : Int)) = true := decide_eq_true h1
    have HF : Hid (true = r) := Lib.hid (by rw [← HR.out]; unfold M.big13; rw [decide_eq_true (show 300 < gl by omega)]; simp)
    go_enter Tryd.func8, Tryd.ntmps8
    go_wp2_with fail
    go_ret
    exact ⟨ret_bool HF.out, by rw [HW.out]; exact hB⟩
  have q1 : decide (300 < (gl : Int)) = false := decide_eq_false h1
  by_cases h2 : 300 < (pl : Int)
  · have q2 : decide (300 < (pl : Int)) = true := decide_eq_true h2
    have HF : Hid (true = r) := Lib.hid (by rw [← HR.out]; unfold M.big13; rw [decide_eq_true (show 300 < pl by omega)]; simp)
    go_enter Tryd.func8, Tryd.ntmps8
    go_wp2_with fail
    go_ret
    exact ⟨ret_bool HF.out, by rw [HW.out]; exact hB⟩
  have q2 : decide (300 < (pl : Int)) = false := decide_eq_false h2
  by_cases h3 : 8 < (es.length : Int)
  · have q3 : decide (8 < (es.length : Int)) = true := decide_eq_true h3
    have HF : Hid (true = r) := Lib.hid (by rw [← HR.out]; unfold M.big13; rw [List.length_map, decide_eq_true (show 8 < es.length by omega)]; simp)
    go_enter Tryd.func8, Tryd.ntmps8
    go_wp2_with fail
    go_ret
    exact ⟨ret_bool HF.out, by rw [HW.out]; exact hB⟩
  have q3 : decide (8 < (es.length : Int)) = false := decide_eq_false h3
  have HE : Hid (r = (es.map (·.s)).any fun s => decide (20 < s.pat.length)) := Lib.hid (by
    rw [← HR.out]; unfold M.big13
    rw [List.length_map, decide_eq_false (show ¬ 300 < gl by omega), decide_eq_false (show ¬ 300 < pl by omega), decide_eq_false (show ¬ 8 < es.length by omega)]; rfl)
  have hl8 : es.length ≤ 8 := by omega
  go_enter Tryd.func8, Tryd.ntmps8
  go_wp2_with fail
  rw [HW.out]
  go_loop [5] (fun i => ∃ k : Nat, k ≤ es.length ∧ i = .int .i64 k ∧ Hid (∀ j (hj : j < es.length), j < k → ¬ 20 < es[j].s.pat.length)) (fun i => es.length - (intOf i).toNat)
  case atStart => exact ⟨0, Nat.zero_le _, rfl, Lib.hid (fun j _ h => absurd h (by omega))⟩
  case round =>
    clear q1 q2 q3
    obtain ⟨k, hk, rfl, HN⟩ := hrel
    by_cases hlt : k < es.length
    · obtain ⟨la, rfl, hlb, a0, a1, a2, a3, a4, a5, a6, a7⟩ := (hL.below hB).st8 hlt
      have HA : Hid (20 < es[k].s.pat.length → true = r) := Lib.hid (fun h => by
        rw [HE.out]; symm
        rw [List.any_eq_true]
        exact ⟨es[k].s, List.mem_map.2 ⟨_, List.getElem_mem hlt, rfl⟩, by simpa using h⟩)
      have HN2 : Hid (¬ 20 < es[k].s.pat.length → ∀ j (hj : j < es.length), j < k + 1 → ¬ 20 < es[j].s.pat.length) := Lib.hid (fun h j h1 h3 => by
        by_cases e : j = k
        · subst e; exact h
        · exact HN.out j h1 (by omega))
      generalize es[k] = ek at *
      obtain ⟨s, A, c⟩ := ek
      simp only at a5 HA HN2
      clear a0 a1 a2 a3 a4 a6 a7
      generalize s.pat.length = n at *
      by_cases hb : 20 < (n : Int)
      · have q : decide (20 < (n : Int)) = true := decide_eq_true hb
        have q' : decide (20 < n) = true := decide_eq_true (by omega)
        go_wp2_with fail
        go_ret
        exact ⟨ret_bool (HA.out (by omega)), hB⟩
      · have q : decide (20 < (n : Int)) = false := decide_eq_false hb
        have q' : decide (20 < n) = false := decide_eq_false (by omega)
        have HN3 := Lib.hid (HN2.out (by omega))
        go_wp2_with fail
        go_round
        case rel => exact ⟨k + 1, hlt, by go_num, HN3⟩
        case measure => simp [intOf]; omega
    · have HF : Hid (false = r) := Lib.hid (by
        rw [HE.out]; symm
        rw [List.any_eq_false]
        intro s hs
        obtain ⟨e, he, rfl⟩ := List.mem_map.1 hs
        obtain ⟨j, hj, rfl⟩ := List.getElem_of_mem he
        simpa using HN.out j hj (by omega))
      go_wp2_with fail
      go_ret
      exact ⟨ret_bool HF.out, hB⟩
end Go.Proofs.YtfcaikahdcpglaaDoor
