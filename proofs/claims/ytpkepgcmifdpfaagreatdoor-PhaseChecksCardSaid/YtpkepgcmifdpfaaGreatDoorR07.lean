/- A bundle of texts: Fo2, Fo3, Fo4, Fo5, Fo6, Fo7, Fo8, Fo9. -/
import Derived.Test.YtpkepgcmifdpfaaGreatDoorR05
import Derived.Test.YtpkepgcmifdpfaaGreatDoorR06
import Derived.Test.YtpkepgcmifdpfaaGreatDoorR04
section
namespace Go.Proofs.YtpkepgcmifdpfaaGreatDoor
open Go Go.RowKit
set_option maxRecDepth 100000
namespace M
def rforbd (ps : List P5) (a b : Ch) : Bool := !(decide (a.ch = 0) || decide (b.ch = 0)) && ps.any fun p => one p a b || one p b a
theorem rforbd_eq {ps : List P5} {a b : Ch} (ha : W64 a.ch) (hb : W64 b.ch) (hp : ∀ p ∈ ps, W64 p.c) : rforbd ps a b = forbd ps a b := by
  unfold rforbd forbd
  congr 1
  rw [Bool.eq_iff_iff, List.any_eq_true, List.any_eq_true]
  constructor
  · rintro ⟨p, h1, h2⟩; exact ⟨p, h1, by rw [hit_one hb (hp p h1), hit_one ha (hp p h1)]; exact h2⟩
  · rintro ⟨p, h1, h2⟩; exact ⟨p, h1, by rw [hit_one hb (hp p h1), hit_one ha (hp p h1)] at h2; exact h2⟩
def rwaits (ps : List P5) (x y : Mv) : Bool := !decide (x.st = y.st) && rforbd ps ⟨x.st, x.new⟩ ⟨y.st, y.old⟩
theorem rwaits_eq {ps : List P5} {x y : Mv} (ha : W64 x.new) (hb : W64 y.old) (hp : ∀ p ∈ ps, W64 p.c) : rwaits ps x y = waits ps x y := by
  unfold rwaits waits
  rw [rforbd_eq ha hb hp]
theorem rforbd_zero {ps : List P5} {a b : Ch} (h : a.ch = 0 ∨ b.ch = 0) : rforbd ps a b = false := by
  unfold rforbd; rcases h with h | h <;> simp [h]
theorem rforbd_any {ps : List P5} {a b : Ch} (h : a.ch ≠ 0) (h2 : b.ch ≠ 0) : rforbd ps a b = ps.any fun p => one p a b || one p b a := by
  unfold rforbd; rw [decide_eq_false h, decide_eq_false h2]; rfl
end M
set_option maxHeartbeats 16000000 in
theorem rForbidden_ok (PA : Option Addr) (pc : Nat) (ps : List P5) (a b : Ch) (w : World) (hL : Sl 5 p5cell w w.heap.size PA ps) (hl : ps.length ≤ 9223372036854775806) : Calls Tryz.prog 94 #[.slice PA ps.length pc, chv a, chv b] w fun e w' => e = .returned (.bool (M.rforbd ps a b)) ∧ Below w.heap.size w w' := by
  obtain ⟨V, HW, x1, x2, hB, -⟩ := boxes2 w (chc a) 160 (chc b) 160
  obtain ⟨za, hza⟩ : ∃ z, (a.ch != 0) = z := ⟨_, rfl⟩
  obtain ⟨zb, hzb⟩ : ∃ z, (b.ch != 0) = z := ⟨_, rfl⟩
  have HZ : Hid (M.rforbd ps a b = (ps.any fun p => za && zb && (M.one p a b || M.one p b a))) := Lib.hid (by
    subst hza
    subst hzb
    by_cases ha : a.ch = 0
    · rw [M.rforbd_zero (.inl ha)]; simp [ha]
    · by_cases hb : b.ch = 0
      · rw [M.rforbd_zero (.inr hb)]; simp [hb]
      · have e1 : (a.ch != 0) = true := by simpa using ha
        have e2 : (b.ch != 0) = true := by simpa using hb
        rw [M.rforbd_any ha hb]
        simp only [e1, e2, Bool.true_and])
  have hV := HW.out
  go_enter Tryz.func94, Tryz.ntmps94
  go_wp2_with fail
  clear hV
  go_loopw [7] (fun i wr => ∃ k : Nat, k ≤ ps.length ∧ i = .int .i64 k ∧ Below V.heap.size V wr ∧ Hid (∀ j (hj : j < ps.length), j < k → (za && zb && (M.one ps[j] a b || M.one ps[j] b a)) = false)) (fun i _ => ps.length - (intOf i).toNat)
  case atStart => exact ⟨0, Nat.zero_le _, rfl, Below.refl _ _, Lib.hid (fun j _ h => absurd h (by omega))⟩
  case round =>
    obtain ⟨k, hk, rfl, hBr, HN⟩ := hrel
    by_cases hlt : k < ps.length
    · have BW := after_ hB hBr
      obtain ⟨la, hla, hlb, c0, c1, c2, c3, c4⟩ := ((hL.below BW).more BW.size).p5s hlt
      have HY : Hid ((za && zb && (M.one ps[k] a b || M.one ps[k] b a)) = true → M.rforbd ps a b = true) := Lib.hid (fun h => by rw [HZ.out]; exact M.any_here (f := fun p => za && zb && (M.one p a b || M.one p b a)) hlt h)
      have HS : Hid ((za && zb && (M.one ps[k] a b || M.one ps[k] b a)) = false → ∀ j (hj : j < ps.length), j < k + 1 → (za && zb && (M.one ps[j] a b || M.one ps[j] b a)) = false) := Lib.hid (fun h j hj h3 => by
        by_cases e : j = k
        · subst e; exact h
        · exact HN.out j hj (by omega))
      clear HN
      generalize ps[k] = p at *
      have z0 : (0 : Int) ≤ (k : Int) := by omega
      have z1 : (k : Int) < (ps.length : Int) := by omega
      have q0 : decide ((k : Int) < (ps.length : Int)) = true := decide_eq_true z1
      subst hla
      have y1 := x1.below hBr
      have y2 := x2.below hBr
      obtain ⟨d0, d1⟩ := y1.c2
      obtain ⟨e0, e1⟩ := y2.c2
      have l1 := y1.lt
      have l2 := y2.lt
      obtain ⟨r1, hr1⟩ : ∃ r, M.one p a b = r := ⟨_, rfl⟩
      obtain ⟨r2, hr2⟩ : ∃ r, M.one p b a = r := ⟨_, rfl⟩
      have k1 : Hid (∀ u : Kept wr.heap.size wr, Calls Tryz.prog 114 #[p5v p, .int .i64 a.st, .int .i64 a.ch, .int .i64 b.st, .int .i64 b.ch] u.val fun e w' => e = .returned (.bool r1) ∧ Below u.val.heap.size u.val w') := Lib.hid (fun u => by rw [← hr1]; exact one_ok p a b u.val)
      have k2 : Hid (∀ u : Kept wr.heap.size wr, Calls Tryz.prog 114 #[p5v p, .int .i64 b.st, .int .i64 b.ch, .int .i64 a.st, .int .i64 a.ch] u.val fun e w' => e = .returned (.bool r2) ∧ Below u.val.heap.size u.val w') := Lib.hid (fun u => by rw [← hr2]; exact one_ok p b a u.val)
      rw [hr1, hr2] at HY HS
      clear hr1 hr2
      go_wp2_with fail
      cases za with
      | false =>
        have HE := Lib.hid (HS.out rfl)
        clear HY HS HZ
        refine wp_region_kept wr.heap.size wr (by kernel_rfl) (by kernel_rfl) (Below.refl _ _) ?_
        repeat (go_big_quiet_step (first | (go_at_call 114; with_reducible exact Kept.calls (Nat.le_refl _) (k1.out _)) | (go_at_call 114; with_reducible exact Kept.calls (Nat.le_refl _) (k2.out _))))
        refine wpQuiet_nil ?_
        rintro w5 ⟨⟨w5x, hb5⟩, hw5⟩
        dsimp only at hw5
        subst hw5
        go_wp2_with fail
        go_roundw
        case rel => exact ⟨k + 1, hlt, by go_num, hBr.trans (hb5.mono hBr.size), HE⟩
        case measure => simp [intOf]; omega
      | true =>
      cases zb with
      | false =>
        have HE := Lib.hid (HS.out rfl)
        clear HY HS HZ
        refine wp_region_kept wr.heap.size wr (by kernel_rfl) (by kernel_rfl) (Below.refl _ _) ?_
        repeat (go_big_quiet_step (first | (go_at_call 114; with_reducible exact Kept.calls (Nat.le_refl _) (k1.out _)) | (go_at_call 114; with_reducible exact Kept.calls (Nat.le_refl _) (k2.out _))))
        refine wpQuiet_nil ?_
        rintro w5 ⟨⟨w5x, hb5⟩, hw5⟩
        dsimp only at hw5
        subst hw5
        go_wp2_with fail
        go_roundw
        case rel => exact ⟨k + 1, hlt, by go_num, hBr.trans (hb5.mono hBr.size), HE⟩
        case measure => simp [intOf]; omega
      | true =>
      cases r1 with
      | true =>
        have HF := Lib.hid (HY.out rfl)
        clear HY HS HZ
        refine wp_region_kept wr.heap.size wr (by kernel_rfl) (by kernel_rfl) (Below.refl _ _) ?_
        repeat (go_big_quiet_step (first | (go_at_call 114; with_reducible exact Kept.calls (Nat.le_refl _) (k1.out _)) | (go_at_call 114; with_reducible exact Kept.calls (Nat.le_refl _) (k2.out _))))
        refine wpQuiet_nil ?_
        rintro w5 ⟨⟨w5x, hb5⟩, hw5⟩
        dsimp only at hw5
        subst hw5
        go_wp2_with fail
        go_ret
        exact ⟨by rw [HF.out]; rfl, after_ hB (hBr.trans (hb5.mono hBr.size))⟩
      | false =>
      cases r2 with
      | true =>
        have HF := Lib.hid (HY.out rfl)
        clear HY HS HZ
        refine wp_region_kept wr.heap.size wr (by kernel_rfl) (by kernel_rfl) (Below.refl _ _) ?_
        repeat (go_big_quiet_step (first | (go_at_call 114; with_reducible exact Kept.calls (Nat.le_refl _) (k1.out _)) | (go_at_call 114; with_reducible exact Kept.calls (Nat.le_refl _) (k2.out _))))
        refine wpQuiet_nil ?_
        rintro w5 ⟨⟨w5x, hb5⟩, hw5⟩
        dsimp only at hw5
        subst hw5
        go_wp2_with fail
        go_ret
        exact ⟨by rw [HF.out]; rfl, after_ hB (hBr.trans (hb5.mono hBr.size))⟩
      | false =>
        have HE := Lib.hid (HS.out rfl)
        clear HY HS HZ
        refine wp_region_kept wr.heap.size wr (by kernel_rfl) (by kernel_rfl) (Below.refl _ _) ?_
        repeat (go_big_quiet_step (first | (go_at_call 114; with_reducible exact Kept.calls (Nat.le_refl _) (k1.out _)) | (go_at_call 114; with_reducible exact Kept.calls (Nat.le_refl _) (k2.out _))))
        refine wpQuiet_nil ?_
        rintro w5 ⟨⟨w5x, hb5⟩, hw5⟩
        dsimp only at hw5
        subst hw5
        go_wp2_with fail
        go_roundw
        case rel => exact ⟨k + 1, hlt, by go_num, hBr.trans (hb5.mono hBr.size), HE⟩
        case measure => simp [intOf]; omega
    · have q0 : decide ((k : Int) < (ps.length : Int)) = false := decide_eq_false (by omega)
      have HF : Hid (M.rforbd ps a b = false) := Lib.hid (by rw [HZ.out]; exact M.any_none' (f := fun p => za && zb && (M.one p a b || M.one p b a)) (fun j hj => HN.out j hj (by omega)))
      go_wp2_with fail
      go_ret
      exact ⟨by rw [HF.out]; rfl, after_ hB hBr⟩
set_option maxHeartbeats 8000000 in
theorem rWaits_ok (PA : Option Addr) (pc : Nat) (ps : List P5) (x y : Mv) (w : World) (hL : Sl 5 p5cell w w.heap.size PA ps) (hl : ps.length ≤ 9223372036854775806) : Calls Tryz.prog 66 #[.slice PA ps.length pc, mvv x, mvv y] w fun e w' => e = .returned (.bool (M.rwaits ps x y)) ∧ Below w.heap.size w w' := by
  obtain ⟨V, HW, x1, x2, hB, -⟩ := boxes2 w (mvc x) 66 (mvc y) 66
  obtain ⟨d0, d1, d2, d3, d4, d5⟩ := x1.c6'
  obtain ⟨e0, e1, e2, e3, e4, e5⟩ := x2.c6'
  have hV := HW.out
  by_cases ha : x.st = y.st
  · have q0 : (x.st != y.st) = false := by simpa using ha
    have HF : Hid (M.rwaits ps x y = false) := Lib.hid (by unfold M.rwaits; simp [ha])
    clear ha
    go_enter Tryz.func66, Tryz.ntmps66
    go_wp2_with fail
    go_ret
    exact ⟨by rw [HF.out]; rfl, hB⟩
  have q0 : (x.st != y.st) = true := by simpa using ha
  have kF := rForbidden_ok PA pc ps ⟨x.st, x.new⟩ ⟨y.st, y.old⟩ V ((hL.below hB).more hB.size) hl
  obtain ⟨r, hr⟩ : ∃ r, M.rforbd ps ⟨x.st, x.new⟩ ⟨y.st, y.old⟩ = r := ⟨_, rfl⟩
  have HF : Hid (M.rwaits ps x y = r) := Lib.hid (by unfold M.rwaits; rw [decide_eq_false ha, hr]; rfl)
  rw [hr] at kF
  clear hr ha
  go_enter Tryz.func66, Tryz.ntmps66
  go_wp2_with fail
  refine kF.mono ?_
  rintro e w1 ⟨rfl, hb1⟩
  go_wp2_with fail
  go_ret
  exact ⟨by rw [HF.out]; rfl, after_ hB hb1⟩
end Go.Proofs.YtpkepgcmifdpfaaGreatDoor
end

section
namespace Go.Proofs.YtpkepgcmifdpfaaGreatDoor
open Go Go.RowKit
set_option maxRecDepth 100000
theorem Sl.one_at {α : Type} {cell : α → Nat → Value} {w : World} {B : Nat} {A : Option Addr} {xs : List α} {k : Nat} (h : Sl 1 cell w B A xs) (hk : k < xs.length) : ∃ ad, A = some ad ∧ (ad.add k).block < B ∧ w.cell? (ad.add k) = some (cell xs[k] 0) := by
  obtain ⟨ad, e, hb, hc⟩ := h k hk
  exact ⟨ad, e, by rw [add_block]; exact hb, by simpa using hc 0 (by omega)⟩
set_option maxHeartbeats 8000000 in
theorem rSame_any (A B : Option Addr) (ac bc : Nat) (a b : List Int) (w : World) (hA : Sl 1 icell w w.heap.size A a) (hB' : Sl 1 icell w w.heap.size B b) (ha : a.length ≤ 1000000) :
    Calls Tryz.prog 21 #[.slice A a.length ac, .slice B b.length bc] w fun e w' => e = .returned (.bool (decide (a = b))) ∧ Below w.heap.size w w' := by
  obtain ⟨r, hr⟩ : ∃ r, decide (a = b) = r := ⟨_, rfl⟩
  rw [hr]
  have HR := Lib.hid hr
  clear hr
  by_cases hl : a.length = b.length
  · have q : ((a.length : Int) != (b.length : Int)) = false := by simp; omega
    have HN : Hid (∀ k (h1 : k < a.length) (h2 : k < b.length), a[k] ≠ b[k] → false = r) := Lib.hid (fun k h1 h2 h => by
      rw [← HR.out]; symm
      rw [decide_eq_false_iff_not]
      intro e
      subst e
      exact h rfl)
    have HY : Hid ((∀ k (h1 : k < a.length) (h2 : k < b.length), a[k] = b[k]) → true = r) := Lib.hid (fun h => by
      rw [← HR.out]; symm
      rw [decide_eq_true_eq]
      exact List.ext_getElem hl h)
    go_enter Tryz.func21, Tryz.ntmps21
    go_wp2_with fail
    go_loopw [5] (fun i wr => ∃ k : Nat, k ≤ a.length ∧ i = .int .i64 k ∧ Below w.heap.size w wr ∧ Hid (∀ j (h1 : j < a.length) (h2 : j < b.length), j < k → a[j] = b[j])) (fun i _ => a.length - (intOf i).toNat)
    case atStart => exact ⟨0, Nat.zero_le _, rfl, Below.refl _ _, Lib.hid (fun j _ _ h => absurd h (by omega))⟩
    case round =>
      clear q
      obtain ⟨k, hk, rfl, hB, HK⟩ := hrel
      by_cases hlt : k < a.length
      · have hlt2 : k < b.length := by omega
        obtain ⟨la, rfl, hlb, a0⟩ := ((hA.below hB).more hB.size).one_at hlt
        obtain ⟨lb, rfl, hlb2, b0⟩ := ((hB'.below hB).more hB.size).one_at hlt2
        have l1 : (la.add k).block < wr.heap.size := by first | exact hlb | (rw [add_block]; exact hlb)
        have l2 : (lb.add k).block < wr.heap.size := by first | exact hlb2 | (rw [add_block]; exact hlb2)
        simp only [icell] at a0 b0
        have HNk := Lib.hid (HN.out k hlt hlt2)
        have HK2 : Hid (a[k] = b[k] → ∀ j (h1 : j < a.length) (h2 : j < b.length), j < k + 1 → a[j] = b[j]) := Lib.hid (fun h j h1 h2 h3 => by
          by_cases e : j = k
          · subst e; exact h
          · exact HK.out j h1 h2 (by omega))
        generalize a[k] = x at *
        generalize b[k] = y at *
        by_cases he : x = y
        · have q : (x != y) = false := by simp [he]
          have HK3 := Lib.hid (HK2.out he)
          clear he
          go_wp2_with fail
          refine wp_region_kept wr.heap.size wr (by kernel_rfl) (by kernel_rfl) (Below.refl _ _) ?_
          repeat (go_big_quiet_step (fail))
          refine wpQuiet_nil ?_
          rintro w5 ⟨⟨_, hb5⟩, rfl⟩
          go_wp2_with fail
          go_roundw
          case rel => exact ⟨k + 1, hlt, by go_num, after_ hB hb5, HK3⟩
          case measure => simp [intOf]; omega
        · have q : (x != y) = true := by simp [he]
          have HF := Lib.hid (HNk.out he)
          clear he
          go_wp2_with fail
          refine wp_region_kept wr.heap.size wr (by kernel_rfl) (by kernel_rfl) (Below.refl _ _) ?_
          repeat (go_big_quiet_step (fail))
          refine wpQuiet_nil ?_
          rintro w5 ⟨⟨_, hb5⟩, rfl⟩
          go_wp2_with fail
          go_ret
          exact ⟨ret_bool HF.out, after_ hB hb5⟩
      · have HF := Lib.hid (HY.out (fun j h1 h2 => HK.out j h1 h2 (by omega)))
        go_wp2_with fail
        go_ret
        exact ⟨ret_bool HF.out, hB⟩
  · have q : ((a.length : Int) != (b.length : Int)) = true := by simp; omega
    have HF : Hid (false = r) := Lib.hid (by
      rw [← HR.out]; symm
      rw [decide_eq_false_iff_not]
      intro e
      exact hl (by rw [e]))
    clear hl
    go_enter Tryz.func21, Tryz.ntmps21
    go_wp2_with fail
    go_ret
    exact ⟨ret_bool HF.out, Below.refl _ _⟩
end Go.Proofs.YtpkepgcmifdpfaaGreatDoor
end

section
namespace Go.Proofs.YtpkepgcmifdpfaaGreatDoor
open Go Go.RowKit
set_option maxRecDepth 100000
def M.chOk46 (c : Int) : Bool := decide (c = 0 ∨ 2 ≤ c ∧ c ≤ 51)
set_option maxHeartbeats 4000000 in
theorem rChannel_ok (c : Int) (w : World) : Calls Tryz.prog 93 #[.int .i64 c] w fun e w' => e = .returned (.bool (M.chOk46 c)) ∧ w = w' := by
  by_cases h0 : c = 0
  · have HF : Hid (M.chOk46 c = true) := Lib.hid (by unfold M.chOk46; simp [h0])
    have q0 : (c == 0) = true := by simpa using h0
    clear h0
    go_enter Tryz.func93, Tryz.ntmps93
    go_wp2_with fail
    go_ret
    exact ⟨by rw [HF.out]; rfl, rfl⟩
  have q0 : (c == 0) = false := by simpa using h0
  by_cases h1 : 2 ≤ c
  · have q1 : decide (2 ≤ c) = true := decide_eq_true h1
    obtain ⟨r, hr⟩ : ∃ r, decide (c ≤ 51) = r := ⟨_, rfl⟩
    have HF : Hid (M.chOk46 c = r) := Lib.hid (by unfold M.chOk46; rw [← hr, decide_eq_decide]; omega)
    clear h0 h1
    go_enter Tryz.func93, Tryz.ntmps93
    go_wp2_with fail
    go_ret
    exact ⟨by rw [HF.out]; rfl, rfl⟩
  · have q1 : decide (2 ≤ c) = false := decide_eq_false h1
    have HF : Hid (M.chOk46 c = false) := Lib.hid (by unfold M.chOk46; rw [decide_eq_false_iff_not]; omega)
    clear h0 h1
    go_enter Tryz.func93, Tryz.ntmps93
    go_wp2_with fail
    go_ret
    exact ⟨by rw [HF.out]; rfl, rfl⟩
end Go.Proofs.YtpkepgcmifdpfaaGreatDoor
end

section
namespace Go.Proofs.YtpkepgcmifdpfaaGreatDoor
open Go Go.RowKit
set_option maxRecDepth 100000
theorem M.mvOk_iff {m : Mv} : M.mvOk m = true ↔ 0 ≤ m.st ∧ m.st ≤ 511 ∧ (m.old = 0 ∨ 2 ≤ m.old ∧ m.old ≤ 51) ∧ (m.new = 0 ∨ 2 ≤ m.new ∧ m.new ≤ 51) ∧ m.old ≠ m.new ∧ 0 ≤ m.tw ∧ m.tw ≤ 255 ∧ 0 ≤ m.cr ∧ m.cr ≤ 255 ∧ 1 ≤ m.wk ∧ m.wk ≤ 52 := by
 unfold M.mvOk
 simp only [Bool.and_eq_true, decide_eq_true_eq, and_assoc]
set_option maxHeartbeats 16000000 in
theorem rMvValid_ok (m : Mv) (w : World) : Calls Tryz.prog 63 #[mvv m] w fun e w' => e = .returned (.bool (M.mvOk m)) ∧ Below w.heap.size w w' := by
 obtain ⟨V, HW, x0, hB, -⟩ := boxes1 w (mvc m) 66
 obtain ⟨c0, c1, c2, c3, c4, c5⟩ := x0.c6'
 by_cases h0 : 0 ≤ m.st
 case neg =>
  have HF : Hid (M.mvOk m = false) := Lib.hid (by rw [Bool.eq_false_iff]; intro h; exact h0 (M.mvOk_iff.1 h).1)
  have q0 : decide (0 ≤ m.st) = false := decide_eq_false h0
  clear h0
  have hV := HW.out
  go_enter Tryz.func63, Tryz.ntmps63
  go_wp2_with fail
  go_ret
  exact ⟨by rw [HF.out]; rfl, hB⟩
 have q0 : decide (0 ≤ m.st) = true := decide_eq_true h0
 have H0 := Lib.hid h0
 clear h0
 by_cases h1 : m.st ≤ 511
 case neg =>
  have HF : Hid (M.mvOk m = false) := Lib.hid (by rw [Bool.eq_false_iff]; intro h; exact h1 (M.mvOk_iff.1 h).2.1)
  have q1 : decide (m.st ≤ 511) = false := decide_eq_false h1
  clear h1
  have hV := HW.out
  go_enter Tryz.func63, Tryz.ntmps63
  go_wp2_with fail
  go_ret
  exact ⟨by rw [HF.out]; rfl, hB⟩
 have q1 : decide (m.st ≤ 511) = true := decide_eq_true h1
 have H1 := Lib.hid h1
 clear h1
 by_cases h2 : m.old = 0 ∨ 2 ≤ m.old ∧ m.old ≤ 51
 case neg =>
  have HF : Hid (M.mvOk m = false) := Lib.hid (by rw [Bool.eq_false_iff]; intro h; exact h2 (M.mvOk_iff.1 h).2.2.1)
  have kc2 := rChannel_ok m.old V
  rw [show M.chOk46 m.old = false from decide_eq_false h2] at kc2
  clear h2
  have hV := HW.out
  go_enter Tryz.func63, Tryz.ntmps63
  go_wp2_with fail
  refine kc2.mono ?_
  rintro e w1 ⟨rfl, rfl⟩
  go_wp2_with fail
  go_ret
  exact ⟨by rw [HF.out]; rfl, hB⟩
 have kc2 := rChannel_ok m.old V
 rw [show M.chOk46 m.old = true from decide_eq_true h2] at kc2
 have H2 := Lib.hid h2
 clear h2
 by_cases h3 : m.new = 0 ∨ 2 ≤ m.new ∧ m.new ≤ 51
 case neg =>
  have HF : Hid (M.mvOk m = false) := Lib.hid (by rw [Bool.eq_false_iff]; intro h; exact h3 (M.mvOk_iff.1 h).2.2.2.1)
  have kc3 := rChannel_ok m.new V
  rw [show M.chOk46 m.new = false from decide_eq_false h3] at kc3
  clear h3
  have hV := HW.out
  go_enter Tryz.func63, Tryz.ntmps63
  go_wp2_with fail
  refine kc2.mono ?_
  rintro e w1 ⟨rfl, rfl⟩
  go_wp2_with fail
  refine kc3.mono ?_
  rintro e w1 ⟨rfl, rfl⟩
  go_wp2_with fail
  go_ret
  exact ⟨by rw [HF.out]; rfl, hB⟩
 have kc3 := rChannel_ok m.new V
 rw [show M.chOk46 m.new = true from decide_eq_true h3] at kc3
 have H3 := Lib.hid h3
 clear h3
 by_cases h4 : m.old ≠ m.new
 case neg =>
  have HF : Hid (M.mvOk m = false) := Lib.hid (by rw [Bool.eq_false_iff]; intro h; exact h4 (M.mvOk_iff.1 h).2.2.2.2.1)
  have q4 : (m.old != m.new) = false := by simpa using h4
  clear h4
  have hV := HW.out
  go_enter Tryz.func63, Tryz.ntmps63
  go_wp2_with fail
  refine kc2.mono ?_
  rintro e w1 ⟨rfl, rfl⟩
  go_wp2_with fail
  refine kc3.mono ?_
  rintro e w1 ⟨rfl, rfl⟩
  go_wp2_with fail
  go_ret
  exact ⟨by rw [HF.out]; rfl, hB⟩
 have q4 : (m.old != m.new) = true := by simpa using h4
 have H4 := Lib.hid h4
 clear h4
 by_cases h5 : 0 ≤ m.tw
 case neg =>
  have HF : Hid (M.mvOk m = false) := Lib.hid (by rw [Bool.eq_false_iff]; intro h; exact h5 (M.mvOk_iff.1 h).2.2.2.2.2.1)
  have q5 : decide (0 ≤ m.tw) = false := decide_eq_false h5
  clear h5
  have hV := HW.out
  go_enter Tryz.func63, Tryz.ntmps63
  go_wp2_with fail
  refine kc2.mono ?_
  rintro e w1 ⟨rfl, rfl⟩
  go_wp2_with fail
  refine kc3.mono ?_
  rintro e w1 ⟨rfl, rfl⟩
  go_wp2_with fail
  go_ret
  exact ⟨by rw [HF.out]; rfl, hB⟩
 have q5 : decide (0 ≤ m.tw) = true := decide_eq_true h5
 have H5 := Lib.hid h5
 clear h5
 by_cases h6 : m.tw ≤ 255
 case neg =>
  have HF : Hid (M.mvOk m = false) := Lib.hid (by rw [Bool.eq_false_iff]; intro h; exact h6 (M.mvOk_iff.1 h).2.2.2.2.2.2.1)
  have q6 : decide (m.tw ≤ 255) = false := decide_eq_false h6
  clear h6
  have hV := HW.out
  go_enter Tryz.func63, Tryz.ntmps63
  go_wp2_with fail
  refine kc2.mono ?_
  rintro e w1 ⟨rfl, rfl⟩
  go_wp2_with fail
  refine kc3.mono ?_
  rintro e w1 ⟨rfl, rfl⟩
  go_wp2_with fail
  go_ret
  exact ⟨by rw [HF.out]; rfl, hB⟩
 have q6 : decide (m.tw ≤ 255) = true := decide_eq_true h6
 have H6 := Lib.hid h6
 clear h6
 by_cases h7 : 0 ≤ m.cr
 case neg =>
  have HF : Hid (M.mvOk m = false) := Lib.hid (by rw [Bool.eq_false_iff]; intro h; exact h7 (M.mvOk_iff.1 h).2.2.2.2.2.2.2.1)
  have q7 : decide (0 ≤ m.cr) = false := decide_eq_false h7
  clear h7
  have hV := HW.out
  go_enter Tryz.func63, Tryz.ntmps63
  go_wp2_with fail
  refine kc2.mono ?_
  rintro e w1 ⟨rfl, rfl⟩
  go_wp2_with fail
  refine kc3.mono ?_
  rintro e w1 ⟨rfl, rfl⟩
  go_wp2_with fail
  go_ret
  exact ⟨by rw [HF.out]; rfl, hB⟩
 have q7 : decide (0 ≤ m.cr) = true := decide_eq_true h7
 have H7 := Lib.hid h7
 clear h7
 by_cases h8 : m.cr ≤ 255
 case neg =>
  have HF : Hid (M.mvOk m = false) := Lib.hid (by rw [Bool.eq_false_iff]; intro h; exact h8 (M.mvOk_iff.1 h).2.2.2.2.2.2.2.2.1)
  have q8 : decide (m.cr ≤ 255) = false := decide_eq_false h8
  clear h8
  have hV := HW.out
  go_enter Tryz.func63, Tryz.ntmps63
  go_wp2_with fail
  refine kc2.mono ?_
  rintro e w1 ⟨rfl, rfl⟩
  go_wp2_with fail
  refine kc3.mono ?_
  rintro e w1 ⟨rfl, rfl⟩
  go_wp2_with fail
  go_ret
  exact ⟨by rw [HF.out]; rfl, hB⟩
 have q8 : decide (m.cr ≤ 255) = true := decide_eq_true h8
 have H8 := Lib.hid h8
 clear h8
 by_cases h9 : 1 ≤ m.wk
 case neg =>
  have HF : Hid (M.mvOk m = false) := Lib.hid (by rw [Bool.eq_false_iff]; intro h; exact h9 (M.mvOk_iff.1 h).2.2.2.2.2.2.2.2.2.1)
  have q9 : decide (1 ≤ m.wk) = false := decide_eq_false h9
  clear h9
  have hV := HW.out
  go_enter Tryz.func63, Tryz.ntmps63
  go_wp2_with fail
  refine kc2.mono ?_
  rintro e w1 ⟨rfl, rfl⟩
  go_wp2_with fail
  refine kc3.mono ?_
  rintro e w1 ⟨rfl, rfl⟩
  go_wp2_with fail
  go_ret
  exact ⟨by rw [HF.out]; rfl, hB⟩
 have q9 : decide (1 ≤ m.wk) = true := decide_eq_true h9
 have H9 := Lib.hid h9
 clear h9
 by_cases h10 : m.wk ≤ 52
 case neg =>
  have HF : Hid (M.mvOk m = false) := Lib.hid (by rw [Bool.eq_false_iff]; intro h; exact h10 (M.mvOk_iff.1 h).2.2.2.2.2.2.2.2.2.2)
  have q10 : decide (m.wk ≤ 52) = false := decide_eq_false h10
  clear h10
  have hV := HW.out
  go_enter Tryz.func63, Tryz.ntmps63
  go_wp2_with fail
  refine kc2.mono ?_
  rintro e w1 ⟨rfl, rfl⟩
  go_wp2_with fail
  refine kc3.mono ?_
  rintro e w1 ⟨rfl, rfl⟩
  go_wp2_with fail
  go_ret
  exact ⟨by rw [HF.out]; rfl, hB⟩
 have q10 : decide (m.wk ≤ 52) = true := decide_eq_true h10
 have H10 := Lib.hid h10
 clear h10
 have HF : Hid (M.mvOk m = true) := Lib.hid (M.mvOk_iff.2 ⟨H0.out, H1.out, H2.out, H3.out, H4.out, H5.out, H6.out, H7.out, H8.out, H9.out, H10.out⟩)
 have hV := HW.out
 go_enter Tryz.func63, Tryz.ntmps63
 go_wp2_with fail
 refine kc2.mono ?_
 rintro e w1 ⟨rfl, rfl⟩
 go_wp2_with fail
 refine kc3.mono ?_
 rintro e w1 ⟨rfl, rfl⟩
 go_wp2_with fail
 go_ret
 exact ⟨by rw [HF.out]; rfl, hB⟩
end Go.Proofs.YtpkepgcmifdpfaaGreatDoor
end

section
namespace Go.Proofs.YtpkepgcmifdpfaaGreatDoor
open Go Go.RowKit
set_option maxRecDepth 100000
def mvcell (m : Mv) (j : Nat) : Value := ((mvc m)[j]?).getD (.int .i64 0)
theorem mv_one (m : Mv) (j : Nat) : (mvcell m j).oneCell' = true := by
  rcases j with _ | _ | _ | _ | _ | _ | j <;> rfl
theorem Sl.mv6 {w : World} {B : Nat} {A : Option Addr} {l : List Mv} {k : Nat} (h : Sl 6 mvcell w B A l) (hk : k < l.length) :
    ∃ la, A = some la ∧ (la.add (k * 6)).block < B ∧ w.cell? (la.add (k * 6)) = some (.int .i64 l[k].st) ∧ w.cell? ⟨(la.add (k * 6)).block, (la.add (k * 6)).off + 1, none⟩ = some (.int .i64 l[k].old) ∧ w.cell? ⟨(la.add (k * 6)).block, (la.add (k * 6)).off + 2, none⟩ = some (.int .i64 l[k].new) ∧ w.cell? ⟨(la.add (k * 6)).block, (la.add (k * 6)).off + 3, none⟩ = some (.int .i64 l[k].tw) ∧ w.cell? ⟨(la.add (k * 6)).block, (la.add (k * 6)).off + 4, none⟩ = some (.int .i64 l[k].cr) ∧ w.cell? ⟨(la.add (k * 6)).block, (la.add (k * 6)).off + 5, none⟩ = some (.int .i64 l[k].wk) := by
  obtain ⟨ad, e, hb, h0, hj⟩ := h.sp (by decide) hk
  exact ⟨ad, e, hb, h0, hj 1 (by decide) (by decide), hj 2 (by decide) (by decide), hj 3 (by decide) (by decide), hj 4 (by decide) (by decide), hj 5 (by decide) (by decide)⟩
namespace M
def mvsTo (l : List Mv) (k : Nat) : Prop := ∀ j (hj : j < l.length), j < k → mvOk l[j] = true ∧ ∀ h0 : 0 < j, (l[j - 1]'(by omega)).st < l[j].st
theorem mvsTo_all {l : List Mv} : mvsTo l l.length ↔ (∀ m ∈ l, mvOk m = true) ∧ l.Pairwise fun x y => x.st < y.st := by
  constructor
  · intro h
    refine ⟨fun m hm => ?_, ?_⟩
    · obtain ⟨j, hj, rfl⟩ := List.getElem_of_mem hm
      exact (h j hj hj).1
    · rw [List.pairwise_iff_getElem]
      intro i j hi hj hij
      induction j with
      | zero => omega
      | succ j ih =>
        have h1 := (h (j + 1) hj hj).2 (by omega)
        simp only [Nat.add_sub_cancel] at h1
        by_cases e : i = j
        · subst e; exact h1
        · have := ih (by omega) (by omega); omega
  · rintro ⟨h1, h2⟩ j hj _
    refine ⟨h1 _ (List.getElem_mem hj), fun h0 => ?_⟩
    exact List.pairwise_iff_getElem.1 h2 (j - 1) j (by omega) hj (by omega)
theorem mvsTo_no {l : List Mv} {k : Nat} (hk : k < l.length) (h : ¬ (mvOk l[k] = true ∧ ∀ h0 : 0 < k, (l[k - 1]'(by omega)).st < l[k].st)) : ¬ mvsOk l := fun h2 => h ((mvsTo_all.2 h2.2) k hk hk)
theorem mvsTo_yes {l : List Mv} {k : Nat} (h : mvsTo l k) (hk : k < l.length) (h2 : mvOk l[k] = true) (h3 : ∀ h0 : 0 < k, (l[k - 1]'(by omega)).st < l[k].st) : mvsTo l (k + 1) := fun j hj hlt => by
  by_cases e : j = k
  · subst e; exact ⟨h2, h3⟩
  · exact h j hj (by omega)
end M
set_option maxHeartbeats 16000000 in
theorem rMoves_ok (LA : Option Addr) (lc : Nat) (l : List Mv) (w : World) (hL : Sl 6 mvcell w w.heap.size LA l) (hl : l.length ≤ 9223372036854775806) :
    Calls Tryz.prog 35 #[.slice LA l.length lc] w fun e w' => (∃ r : Bool, e = .returned (.bool r) ∧ (r = true ↔ M.mvsOk l)) ∧ Below w.heap.size w w' := by
  go_enter Tryz.func35, Tryz.ntmps35
  go_wp2_with fail
  go_loopw [3] (fun i wr => ∃ k : Nat, k ≤ l.length ∧ i = .int .i64 k ∧ Below w.heap.size w wr ∧ Hid (M.mvsTo l k)) (fun i _ => l.length - (intOf i).toNat)
  case atStart => exact ⟨0, Nat.zero_le _, rfl, Below.refl _ _, Lib.hid (fun j _ h => absurd h (by omega))⟩
  case round =>
    obtain ⟨k, hk, rfl, hBr, HN⟩ := hrel
    by_cases hlt : k < l.length
    · obtain ⟨la, hla, hlb, a0, a1, a2, a3, a4, a5⟩ := (hL.below hBr).mv6 hlt
      have l1 := Nat.lt_of_lt_of_le hlb hBr.size
      have x0 : (0 : Int) ≤ (k : Int) := by omega
      have x1 : (k : Int) < (l.length : Int) := by omega
      have q0 : decide ((k : Int) < (l.length : Int)) = true := decide_eq_true x1
      obtain ⟨r, hr⟩ : ∃ r, M.mvOk l[k] = r := ⟨_, rfl⟩
      have kV : Hid (∀ u : Kept wr.heap.size wr, Calls Tryz.prog 63 #[mvv l[k]] u.val fun e w' => e = .returned (.bool r) ∧ Below u.val.heap.size u.val w') := Lib.hid (fun u => by rw [← hr]; exact rMvValid_ok l[k] u.val)
      have HNO : Hid (r = false ∨ (∃ h0 : 0 < k, ¬ (l[k - 1]'(by omega)).st < l[k].st) → ¬ M.mvsOk l) := Lib.hid (fun h => M.mvsTo_no hlt (fun h2 => by
        rcases h with h | ⟨h0, h⟩
        · rw [← hr, h2.1] at h; cases h
        · exact h (h2.2 h0)))
      have HYE : Hid (r = true → (∀ h0 : 0 < k, (l[k - 1]'(by omega)).st < l[k].st) → M.mvsTo l (k + 1)) := Lib.hid (fun h h2 => M.mvsTo_yes HN.out hlt (hr.trans h) h2)
      clear hr HN
      cases r with
      | false =>
        have HF := Lib.hid (HNO.out (.inl rfl))
        clear HNO HYE
        generalize l[k] = m at *
        subst hla
        go_wp2_with fail
        refine wp_region_kept wr.heap.size wr (by kernel_rfl) (by kernel_rfl) (Below.refl _ _) ?_
        repeat (go_big_quiet_step ((go_at_call 63; exact Kept.calls (Nat.le_refl _) (kV.out _))))
        refine wpQuiet_nil ?_
        rintro w5 ⟨⟨w5x, hb5⟩, hw5⟩
        dsimp only at hw5
        subst hw5
        go_wp2_with fail
        go_ret
        exact ⟨⟨_, rfl, by constructor; (intro h; cases h); (intro h; exact absurd h HF.out)⟩, after_ hBr hb5⟩
      | true =>
        by_cases hk0 : k = 0
        · have HE := Lib.hid (HYE.out rfl (fun h0 => absurd h0 (by omega)))
          have q1 : decide ((0 : Int) < (k : Int)) = false := decide_eq_false (by omega)
          have q2 : decide (0 < k) = false := decide_eq_false (by omega)
          clear HNO HYE hk0
          generalize l[k] = m at *
          subst hla
          go_wp2_with fail
          refine wp_region_kept wr.heap.size wr (by kernel_rfl) (by kernel_rfl) (Below.refl _ _) ?_
          repeat (go_big_quiet_step ((go_at_call 63; exact Kept.calls (Nat.le_refl _) (kV.out _))))
          refine wpQuiet_nil ?_
          rintro w5 ⟨⟨w5x, hb5⟩, hw5⟩
          dsimp only at hw5
          subst hw5
          go_wp2_with fail
          go_roundw
          case rel => exact ⟨k + 1, hlt, by go_num, after_ hBr hb5, HE⟩
          case measure => simp [intOf]; omega
        · have q1 : decide ((0 : Int) < (k : Int)) = true := decide_eq_true (by omega)
          have q2 : decide (0 < k) = true := decide_eq_true (by omega)
          obtain ⟨pj, hpj⟩ : ∃ pj, k = pj + 1 := ⟨k - 1, by omega⟩
          have hwk : IntKind.i64.wrap ((k : Int) - 1) = (pj : Int) := by rw [show (k : Int) - 1 = (pj : Int) by omega, IntWalk.i64_left]; exact IntWalk.wrap64_in _ (by omega)
          obtain ⟨la2, hla2, hlb2, p0, -⟩ := (hL.below hBr).mv6 (k := pj) (by omega)
          obtain rfl : la = la2 := Option.some.inj (hla.symm.trans hla2)
          clear hla2
          have l2 := Nat.lt_of_lt_of_le hlb2 hBr.size
          have y0 : (0 : Int) ≤ (pj : Int) := by omega
          have y1 : (pj : Int) < (l.length : Int) := by omega
          have hpe : (l[k - 1]'(by omega)) = (l[pj]'(by omega)) := by congr 1; omega
          have HNO2 : Hid (¬ (l[pj]'(by omega)).st < l[k].st → ¬ M.mvsOk l) := Lib.hid (fun h => HNO.out (.inr ⟨by omega, by rw [hpe]; exact h⟩))
          have HYE2 : Hid ((l[pj]'(by omega)).st < l[k].st → M.mvsTo l (k + 1)) := Lib.hid (fun h => HYE.out rfl (fun _ => by rw [hpe]; exact h))
          clear HNO HYE hpe hk0
          generalize (l[pj]'(by omega)).st = pid at *
          generalize l[k] = m at *
          have HPJ := Lib.hid hpj
          clear hpj
          subst hla
          by_cases hc : m.st ≤ pid
          · have q3 : decide (m.st ≤ pid) = true := decide_eq_true hc
            have HF := Lib.hid (HNO2.out (by omega))
            clear HNO2 HYE2 hc
            go_wp2_with fail
            refine wp_region_kept wr.heap.size wr (by kernel_rfl) (by kernel_rfl) (Below.refl _ _) ?_
            repeat (go_big_quiet_step ((go_at_call 63; exact Kept.calls (Nat.le_refl _) (kV.out _))))
            refine wpQuiet_nil ?_
            rintro w5 ⟨⟨w5x, hb5⟩, hw5⟩
            dsimp only at hw5
            subst hw5
            go_wp2_with fail
            go_ret
            exact ⟨⟨_, rfl, by constructor; (intro h; cases h); (intro h; exact absurd h HF.out)⟩, after_ hBr hb5⟩
          · have q3 : decide (m.st ≤ pid) = false := decide_eq_false hc
            have HE := Lib.hid (HYE2.out (by omega))
            clear HNO2 HYE2 hc
            go_wp2_with fail
            refine wp_region_kept wr.heap.size wr (by kernel_rfl) (by kernel_rfl) (Below.refl _ _) ?_
            repeat (go_big_quiet_step ((go_at_call 63; exact Kept.calls (Nat.le_refl _) (kV.out _))))
            refine wpQuiet_nil ?_
            rintro w5 ⟨⟨w5x, hb5⟩, hw5⟩
            dsimp only at hw5
            subst hw5
            go_wp2_with fail
            go_roundw
            case rel => exact ⟨k + 1, hlt, by go_num, after_ hBr hb5, HE⟩
            case measure => simp [intOf]; omega
    · obtain rfl : k = l.length := by omega
      have HA := Lib.hid (M.mvsTo_all.1 HN.out)
      have q0 : decide ((l.length : Int) < (l.length : Int)) = false := decide_eq_false (by omega)
      obtain ⟨r, hr⟩ : ∃ r, decide ((l.length : Int) ≤ 512) = r := ⟨_, rfl⟩
      have HR : Hid (r = true ↔ M.mvsOk l) := Lib.hid (by rw [← hr, decide_eq_true_eq]; exact ⟨fun h => ⟨by omega, HA.out⟩, fun h => by have := h.1; omega⟩)
      go_wp2_with fail
      go_ret
      exact ⟨⟨_, rfl, HR.out⟩, hBr⟩
end Go.Proofs.YtpkepgcmifdpfaaGreatDoor
end

section
namespace Go.Proofs.YtpkepgcmifdpfaaGreatDoor
open Go Go.RowKit
set_option maxRecDepth 100000
def M.errIs (ps : List P5) (l : List Mv) (er : Int) : Prop := (M.mvsOk l ∧ ps.length ≤ 20000 ∧ er = 0) ∨ (M.mvsOk l ∧ 20000 < ps.length ∧ er = 7) ∨ (¬ M.mvsOk l ∧ er = 2)
set_option maxHeartbeats 8000000 in
theorem rError_ok (PA : Option Addr) (pc np : Nat) (ps : List P5) (LA : Option Addr) (lc : Nat) (l : List Mv) (w : World) (hnp : np = ps.length) (hL : Sl 6 mvcell w w.heap.size LA l) (hl : l.length ≤ 9223372036854775806) :
    Calls Tryz.prog 52 #[.slice PA np pc, .slice LA l.length lc] w fun e w' => (∃ er : Int, e = .returned (.int .i64 er) ∧ M.errIs ps l er) ∧ Below w.heap.size w w' := by
  have kM := rMoves_ok LA lc l w hL hl
  subst hnp
  go_enter Tryz.func52, Tryz.ntmps52
  go_wp2_with fail
  refine kM.mono ?_
  rintro e w1 ⟨⟨r, rfl, hr⟩, hb1⟩
  have HR := Lib.hid hr
  clear hr
  cases r with
  | false =>
    go_wp2_with fail
    go_ret
    exact ⟨⟨_, rfl, .inr (.inr ⟨fun h => Bool.false_ne_true (HR.out.2 h), rfl⟩)⟩, hb1⟩
  | true =>
    have HM := Lib.hid (HR.out.1 rfl)
    by_cases hn : ps.length ≤ 20000
    · have q0 : decide ((20000 : Int) < (ps.length : Int)) = false := decide_eq_false (by omega)
      go_wp2_with fail
      go_ret
      exact ⟨⟨_, rfl, .inl ⟨HM.out, hn, rfl⟩⟩, hb1⟩
    · have q0 : decide ((20000 : Int) < (ps.length : Int)) = true := decide_eq_true (by omega)
      go_wp2_with fail
      go_ret
      exact ⟨⟨_, rfl, .inr (.inl ⟨HM.out, by omega, rfl⟩)⟩, hb1⟩
end Go.Proofs.YtpkepgcmifdpfaaGreatDoor
end

section
namespace Go.Proofs.YtpkepgcmifdpfaaGreatDoor
open Go Go.RowKit
set_option maxRecDepth 100000
structure SLc where
  A : Option Addr
  c : Nat
  xs : List Int
def slcell (s : SLc) (_ : Nat) : Value := .slice s.A s.xs.length s.c
theorem sl_one (s : SLc) (j : Nat) : (slcell s j).oneCell' = true := rfl
structure LL (w : World) (A : Option Addr) (ls : List SLc) : Prop where
  outer : Sl 1 slcell w w.heap.size A ls
  inner : ∀ s ∈ ls, Sl 1 icell w w.heap.size s.A s.xs
theorem LL.next {w w' : World} {A : Option Addr} {ls : List SLc} (h : LL w A ls) (hb : Below w.heap.size w w') : LL w' A ls := ⟨(h.outer.below hb).more hb.size, fun s hs => ((h.inner s hs).below hb).more hb.size⟩
set_option maxHeartbeats 8000000 in
theorem rSameLists_any (A B : Option Addr) (ac bc : Nat) (us vs : List SLc) (w : World) (hA : LL w A us) (hB' : LL w B vs) (hl : us.length ≤ 1000000) (hi : ∀ s ∈ us, s.xs.length ≤ 1000000) :
    Calls Tryz.prog 26 #[.slice A us.length ac, .slice B vs.length bc] w fun e w' => e = .returned (.bool (decide (us.map (·.xs) = vs.map (·.xs)))) ∧ Below w.heap.size w w' := by
  obtain ⟨r, hr⟩ : ∃ r, decide (us.map (·.xs) = vs.map (·.xs)) = r := ⟨_, rfl⟩
  rw [hr]
  have HR := Lib.hid hr
  clear hr
  by_cases hle : us.length = vs.length
  · have q : ((us.length : Int) != (vs.length : Int)) = false := by simp; omega
    have HN : Hid (∀ k (h1 : k < us.length) (h2 : k < vs.length), us[k].xs ≠ vs[k].xs → false = r) := Lib.hid (fun k h1 h2 h => by
      rw [← HR.out]; symm
      rw [decide_eq_false_iff_not]
      intro e
      have := congrArg (fun l => l[k]?) e
      simp only [List.getElem?_map, List.getElem?_eq_getElem h1, List.getElem?_eq_getElem h2, Option.map_some, Option.some.injEq] at this
      exact h this)
    have HY : Hid ((∀ k (h1 : k < us.length) (h2 : k < vs.length), us[k].xs = vs[k].xs) → true = r) := Lib.hid (fun h => by
      rw [← HR.out]; symm
      rw [decide_eq_true_eq]
      exact List.ext_getElem (by simpa using hle) (fun k h1 h2 => by simpa using h k (by simpa using h1) (by simpa using h2)))
    go_enter Tryz.func26, Tryz.ntmps26
    go_wp2_with fail
    go_loopw [5] (fun i wr => ∃ k : Nat, k ≤ us.length ∧ i = .int .i64 k ∧ Below w.heap.size w wr ∧ Hid (∀ j (h1 : j < us.length) (h2 : j < vs.length), j < k → us[j].xs = vs[j].xs)) (fun i _ => us.length - (intOf i).toNat)
    case atStart => exact ⟨0, Nat.zero_le _, rfl, Below.refl _ _, Lib.hid (fun j _ _ h => absurd h (by omega))⟩
    case round =>
      obtain ⟨k, hk, rfl, hBr, HE⟩ := hrel
      by_cases hlt : k < us.length
      · have hlt2 : k < vs.length := by omega
        have gA := hA.next hBr
        have gB := hB'.next hBr
        obtain ⟨la, hla, hlb, a0⟩ := gA.outer.one_at hlt
        obtain ⟨lb, hlb2, hlb3, b0⟩ := gB.outer.one_at hlt2
        replace a0 : wr.cell? (la.add k) = some (.slice us[k].A us[k].xs.length us[k].c) := a0
        replace b0 : wr.cell? (lb.add k) = some (.slice vs[k].A vs[k].xs.length vs[k].c) := b0
        have x0 : (0 : Int) ≤ (k : Int) := by omega
        have x1 : (k : Int) < (us.length : Int) := by omega
        have x2 : (k : Int) < (vs.length : Int) := by omega
        have q0 : decide ((k : Int) < (us.length : Int)) = true := decide_eq_true x1
        have iA := gA.inner _ (List.getElem_mem hlt)
        have iB := gB.inner _ (List.getElem_mem hlt2)
        have il := hi _ (List.getElem_mem hlt)
        have HN2 := Lib.hid (HN.out k hlt hlt2)
        have HS : Hid (us[k].xs = vs[k].xs → ∀ j (h1 : j < us.length) (h2 : j < vs.length), j < k + 1 → us[j].xs = vs[j].xs) := Lib.hid (fun h j h1 h2 h3 => by
          by_cases e : j = k
          · subst e; exact h
          · exact HE.out j h1 h2 (by omega))
        clear HE
        obtain ⟨z, hz⟩ : ∃ z, decide (us[k].xs = vs[k].xs) = z := ⟨_, rfl⟩
        have kS : Hid (∀ u : Kept wr.heap.size wr, Calls Tryz.prog 21 #[.slice us[k].A us[k].xs.length us[k].c, .slice vs[k].A vs[k].xs.length vs[k].c] u.val fun e w' => e = .returned (.bool z) ∧ Below u.val.heap.size u.val w') := Lib.hid (fun u => by rw [← hz]; exact rSame_any _ _ _ _ _ _ u.val ((iA.below u.h).more u.h.size) ((iB.below u.h).more u.h.size) il)
        have HZ := Lib.hid hz
        clear hz
        generalize us[k] = sa at *
        generalize vs[k] = sb at *
        subst hla
        subst hlb2
        cases z with
        | false =>
          have HF := Lib.hid (HN2.out (fun e => by have := HZ.out; rw [decide_eq_true e] at this; cases this))
          clear HN2 HS
          go_wp2_with fail
          refine wp_region_kept wr.heap.size wr (by kernel_rfl) (by kernel_rfl) (Below.refl _ _) ?_
          repeat (go_big_quiet_step ((go_at_call 21; exact Kept.calls (Nat.le_refl _) (kS.out _))))
          refine wpQuiet_nil ?_
          rintro w5 ⟨⟨w5x, hb5⟩, hw5⟩
          dsimp only at hw5
          subst hw5
          go_wp2_with fail
          go_ret
          exact ⟨by rw [← HF.out]; rfl, after_ hBr hb5⟩
        | true =>
          have HE := Lib.hid (HS.out (of_decide_eq_true HZ.out))
          clear HN2 HS
          go_wp2_with fail
          refine wp_region_kept wr.heap.size wr (by kernel_rfl) (by kernel_rfl) (Below.refl _ _) ?_
          repeat (go_big_quiet_step ((go_at_call 21; exact Kept.calls (Nat.le_refl _) (kS.out _))))
          refine wpQuiet_nil ?_
          rintro w5 ⟨⟨w5x, hb5⟩, hw5⟩
          dsimp only at hw5
          subst hw5
          go_wp2_with fail
          go_roundw
          case rel => exact ⟨k + 1, hlt, by go_num, after_ hBr hb5, HE⟩
          case measure => simp [intOf]; omega
      · obtain rfl : k = us.length := by omega
        have HF := Lib.hid (HY.out (fun j h1 h2 => HE.out j h1 h2 h1))
        have q0 : decide ((us.length : Int) < (us.length : Int)) = false := decide_eq_false (by omega)
        go_wp2_with fail
        go_ret
        exact ⟨by rw [← HF.out]; rfl, hBr⟩
  · have q : ((us.length : Int) != (vs.length : Int)) = true := by simp; omega
    have HF : Hid (false = r) := Lib.hid (by
      rw [← HR.out]; symm
      rw [decide_eq_false_iff_not]
      intro e
      exact hle (by simpa using congrArg List.length e))
    go_enter Tryz.func26, Tryz.ntmps26
    go_wp2_with fail
    go_ret
    exact ⟨by rw [← HF.out]; rfl, Below.refl _ _⟩
end Go.Proofs.YtpkepgcmifdpfaaGreatDoor
end

section
namespace Go.Proofs.YtpkepgcmifdpfaaGreatDoor
open Go Go.RowKit
set_option maxRecDepth 100000
namespace M
def idxI (l : List Mv) (st : Int) : Int := match idx l st with | some i => (i : Int) | none => -1
theorem idxI_here {l : List Mv} {st : Int} {k : Nat} (hk : k < l.length) (h : l[k].st = st) (hn : ∀ j (hj : j < l.length), j < k → l[j].st ≠ st) : idxI l st = k := by
  have : idx l st = some k := by
    unfold idx
    rw [Dg.find_first List.pairwise_lt_range]
    refine ⟨by simpa using hk, by rw [List.getElem?_eq_getElem hk]; simpa using h, fun u hu hp => ?_⟩
    have hu' : u < l.length := by simpa using hu
    rw [List.getElem?_eq_getElem hu'] at hp
    rcases Nat.lt_or_ge u k with h1 | h1
    · exact absurd (by simpa using hp) (hn u hu' h1)
    · exact h1
  unfold idxI
  rw [this]
theorem idxI_none {l : List Mv} {st : Int} (hn : ∀ j (hj : j < l.length), l[j].st ≠ st) : idxI l st = -1 := by
  cases h : idx l st with
  | none => unfold idxI; rw [h]
  | some i => obtain ⟨hi, e⟩ := idx_some h; exact absurd e (hn i hi)
end M
set_option maxHeartbeats 8000000 in
theorem rAt_ok (LA : Option Addr) (lc : Nat) (l : List Mv) (st : Int) (w : World) (hL : Sl 6 mvcell w w.heap.size LA l) (hl : l.length ≤ 1000000) :
    Calls Tryz.prog 65 #[.slice LA l.length lc, .int .i64 st] w fun e w' => e = .returned (.int .i64 (M.idxI l st)) ∧ Below w.heap.size w w' := by
  go_enter Tryz.func65, Tryz.ntmps65
  go_wp2_with fail
  go_loopw [5] (fun i wr => ∃ k : Nat, k ≤ l.length ∧ i = .int .i64 k ∧ Below w.heap.size w wr ∧ Hid (∀ j (hj : j < l.length), j < k → l[j].st ≠ st)) (fun i _ => l.length - (intOf i).toNat)
  case atStart => exact ⟨0, Nat.zero_le _, rfl, Below.refl _ _, Lib.hid (fun j _ h => absurd h (by omega))⟩
  case round =>
    obtain ⟨k, hk, rfl, hBr, HN⟩ := hrel
    by_cases hlt : k < l.length
    · obtain ⟨la, hla, hlb, a0, -⟩ := (hL.below hBr).mv6 hlt
      have x0 : (0 : Int) ≤ (k : Int) := by omega
      have x1 : (k : Int) < (l.length : Int) := by omega
      have q0 : decide ((k : Int) < (l.length : Int)) = true := decide_eq_true x1
      have HY : Hid (l[k].st = st → M.idxI l st = k) := Lib.hid (fun h => M.idxI_here hlt h HN.out)
      have HS : Hid (l[k].st ≠ st → ∀ j (hj : j < l.length), j < k + 1 → l[j].st ≠ st) := Lib.hid (fun h j hj h3 => by
        by_cases e : j = k
        · subst e; exact h
        · exact HN.out j hj (by omega))
      clear HN
      generalize l[k].st = qid at *
      subst hla
      by_cases hc : qid = st
      · have q : (qid == st) = true := by simpa using hc
        have HF := Lib.hid (HY.out hc)
        clear HS HY hc
        go_wp2_with fail
        go_ret
        exact ⟨by rw [HF.out]; rfl, hBr⟩
      · have q : (qid == st) = false := by simpa using hc
        have HS2 := Lib.hid (HS.out hc)
        clear HS HY hc
        go_wp2_with fail
        go_roundw
        case rel => exact ⟨k + 1, hlt, by go_num, hBr, HS2⟩
        case measure => simp [intOf]; omega
    · obtain rfl : k = l.length := by omega
      have q0 : decide ((l.length : Int) < (l.length : Int)) = false := decide_eq_false (by omega)
      have HF := Lib.hid (M.idxI_none (st := st) (fun j hj => HN.out j hj hj))
      go_wp2_with fail
      go_ret
      exact ⟨by rw [HF.out]; rfl, hBr⟩
end Go.Proofs.YtpkepgcmifdpfaaGreatDoor
end
