/- The walk of the law LossSquares. -/
import Derived.Test.YtpbcbomlhcbfjaaLawA
namespace Go.Proofs.Ytpbcbomlhcbfjaa
open Go Go.RowKit

set_option maxHeartbeats 4000000 in
theorem refSquare_ok (ax ay bx by' : Int) (w : World) (h1 : M.c63 ax) (h2 : M.c63 ay) (h3 : M.c63 bx) (h4 : M.c63 by') :
    Calls Try.prog 13 #[cv ax ay, cv bx by'] w fun e w' => e = .returned (.int .i64 (M.sq ax ay bx by')) ∧ Below w.heap.size w w' := by
  obtain ⟨V, HW, x0, x1, hB, -⟩ := boxes2 w #[.int .i64 ax, .int .i64 ay] 29 #[.int .i64 bx, .int .i64 by'] 29
  have hsx := M.sq_half h1 h3
  have hsy := M.sq_half h2 h4
  have HQ : Hid (M.sq ax ay bx by' = (bx - ax) * (bx - ax) + (by' - ay) * (by' - ay)) := Lib.hid rfl
  unfold M.c63 at h1 h2 h3 h4
  obtain ⟨dx, hdx⟩ : ∃ d, bx - ax = d := ⟨_, rfl⟩
  obtain ⟨dy, hdy⟩ : ∃ d, by' - ay = d := ⟨_, rfl⟩
  rw [hdx] at hsx HQ
  rw [hdy] at hsy HQ
  obtain ⟨qx, hqx⟩ : ∃ d, dx * dx = d := ⟨_, rfl⟩
  obtain ⟨qy, hqy⟩ : ∃ d, dy * dy = d := ⟨_, rfl⟩
  rw [hqx] at hsx HQ
  rw [hqy] at hsy HQ
  have bdx : -63 ≤ dx ∧ dx ≤ 63 := by omega
  have bdy : -63 ≤ dy ∧ dy ≤ 63 := by omega
  go_enter Try.func13, Try.ntmps13
  go_wp2_with fail
  go_ret
  exact ⟨ret_int HQ.out.symm, by rw [HW.out]; exact hB⟩
set_option maxHeartbeats 4000000 in
theorem lossSquares_ok (ax ay bx by' : Int) (w : World) (hf : M.fine63 ax ay bx by' = true) : Calls Try.prog 4 #[cv ax ay, cv bx by'] w (LawTrue w) := by
  obtain ⟨V0, HW, x0, x1, hB, -⟩ := boxes2 w #[.int .i64 ax, .int .i64 ay] 29 #[.int .i64 bx, .int .i64 by'] 29
  have HF := Lib.hid hf
  clear hf
  obtain ⟨h1, h2, h3, h4⟩ := M.fine63_iff.1 HF.out
  go_enter Try.func4, Try.ntmps4
  go_wp2_with fail
  rw [HW.out]
  refine (square_ok ax ay bx by' V0 h1 h2 h3 h4).mono ?_
  rintro e V ⟨rfl, hb1⟩
  have BV := after_ hB hb1
  have y0 := x0.below hb1
  have y1 := x1.below hb1
  clear x0 x1 hb1 hB
  generalize hq : M.sq ax ay bx by' = q at *
  have HQ := Lib.hid hq
  clear hq
  unfold M.c63 at h1 h2 h3 h4
  have q0 : decide (ax < 0) = false := by simp; omega
  have r0 : decide (63 < ax) = false := by simp; omega
  have q1 : decide (ay < 0) = false := by simp; omega
  have r1 : decide (63 < ay) = false := by simp; omega
  have q2 : decide (bx < 0) = false := by simp; omega
  have r2 : decide (63 < bx) = false := by simp; omega
  have q3 : decide (by' < 0) = false := by simp; omega
  have r3 : decide (63 < by') = false := by simp; omega
  go_wp2_with fail
  go_loopw [7, 8] (fun i _ wr => (i = .int .i64 0 ∨ i = .int .i64 1 ∨ i = .int .i64 2 ∨ i = .int .i64 3 ∨ i = .int .i64 4) ∧ Below V.heap.size V wr) (fun i _ _ => 4 - (intOf i).toNat)
  case atStart => exact ⟨.inl rfl, Below.refl _ _⟩
  case round =>
    obtain ⟨rfl | rfl | rfl | rfl | rfl, hBr⟩ := hrel
    · have z0 := y0.below hBr
      have z1 := y1.below hBr
      obtain ⟨c0, c1⟩ := z0.c2
      obtain ⟨d0, d1⟩ := z1.c2
      have l0 := z0.lt
      have l1 := z1.lt
      go_wp2_with fail
      go_roundw
      case rel => exact ⟨.inr (.inl rfl), hBr.alloc hBr.size _⟩
      case measure => simp [intOf]
    · have z0 := y0.below hBr
      have z1 := y1.below hBr
      obtain ⟨c0, c1⟩ := z0.c2
      obtain ⟨d0, d1⟩ := z1.c2
      have l0 := z0.lt
      have l1 := z1.lt
      go_wp2_with fail
      go_roundw
      case rel => exact ⟨.inr (.inr (.inl rfl)), hBr.alloc hBr.size _⟩
      case measure => simp [intOf]
    · have z0 := y0.below hBr
      have z1 := y1.below hBr
      obtain ⟨c0, c1⟩ := z0.c2
      obtain ⟨d0, d1⟩ := z1.c2
      have l0 := z0.lt
      have l1 := z1.lt
      go_wp2_with fail
      go_roundw
      case rel => exact ⟨.inr (.inr (.inr (.inl rfl))), hBr.alloc hBr.size _⟩
      case measure => simp [intOf]
    · have z0 := y0.below hBr
      have z1 := y1.below hBr
      obtain ⟨c0, c1⟩ := z0.c2
      obtain ⟨d0, d1⟩ := z1.c2
      have l0 := z0.lt
      have l1 := z1.lt
      go_wp2_with fail
      go_roundw
      case rel => exact ⟨.inr (.inr (.inr (.inr (rfl)))), hBr.alloc hBr.size _⟩
      case measure => simp [intOf]
    · have z0 := y0.below hBr
      have z1 := y1.below hBr
      obtain ⟨c0, c1⟩ := z0.c2
      obtain ⟨d0, d1⟩ := z1.c2
      have l0 := z0.lt
      have l1 := z1.lt
      go_wp2_with fail
      refine (refSquare_ok ax ay bx by' wr h1 h2 h3 h4).mono ?_
      rintro e w2 ⟨rfl, hb2⟩
      rw [HQ.out]
      have q9 : (q == q) = true := by simp
      have B2 := after_ (BV.trans (hBr.mono BV.size)) hb2
      go_wp2_with fail
      refine (known_any w2).mono ?_
      rintro e w3 ⟨rfl, hb3⟩
      go_wp2_with fail
      go_ret
      exact ⟨rfl, after_ B2 hb3⟩
set_option maxHeartbeats 4000000 in
theorem lossSquares_no (ax ay bx by' : Int) (w : World) (hf : M.fine63 ax ay bx by' = false) : Calls Try.prog 4 #[cv ax ay, cv bx by'] w (LawTrue w) := by
  obtain ⟨V0, HW, x0, x1, hB, -⟩ := boxes2 w #[.int .i64 ax, .int .i64 ay] 29 #[.int .i64 bx, .int .i64 by'] 29
  have HF := Lib.hid hf
  clear hf
  go_enter Try.func4, Try.ntmps4
  go_wp2_with fail
  rw [HW.out]
  refine (square_no ax ay bx by' V0 HF.out).mono ?_
  rintro e V ⟨rfl, hb1⟩
  have BV := after_ hB hb1
  have y0 := x0.below hb1
  have y1 := x1.below hb1
  clear x0 x1 hb1 hB
  go_wp2_with fail
  go_loopw [7, 8] (fun i _ wr => (i = .int .i64 0 ∨ (i = .int .i64 1 ∧ Hid (M.c63 ax)) ∨ (i = .int .i64 2 ∧ Hid (M.c63 ax ∧ M.c63 ay)) ∨ (i = .int .i64 3 ∧ Hid (M.c63 ax ∧ M.c63 ay ∧ M.c63 bx)) ∨ (i = .int .i64 4 ∧ Hid (M.c63 ax ∧ M.c63 ay ∧ M.c63 bx ∧ M.c63 by'))) ∧ Below V.heap.size V wr) (fun i _ _ => 4 - (intOf i).toNat)
  case atStart => exact ⟨.inl rfl, Below.refl _ _⟩
  case round =>
    obtain ⟨rfl | ⟨rfl, H1⟩ | ⟨rfl, H1⟩ | ⟨rfl, H1⟩ | ⟨rfl, H1⟩, hBr⟩ := hrel
    · have z0 := y0.below hBr
      have z1 := y1.below hBr
      obtain ⟨c0, c1⟩ := z0.c2
      obtain ⟨d0, d1⟩ := z1.c2
      have l0 := z0.lt
      have l1 := z1.lt
      by_cases h : 0 ≤ ax ∧ ax ≤ 63
      · have q : decide (ax < 0) = false := by simp; omega
        have r : decide (63 < ax) = false := by simp; omega
        go_wp2_with fail
        go_roundw
        case rel => exact ⟨.inr (.inl ⟨rfl, Lib.hid h⟩), hBr.alloc hBr.size _⟩
        case measure => simp [intOf]
      · by_cases q : decide (ax < 0) = true
        · clear h
          go_wp2_with fail
          refine (known_any _).mono ?_
          rintro e w3 ⟨rfl, hb3⟩
          go_wp2_with fail
          go_ret
          exact ⟨rfl, after_ (BV.trans ((hBr.alloc hBr.size _).mono BV.size)) hb3⟩
        · have q1 : decide (ax < 0) = false := by simpa using q
          have r : decide (63 < ax) = true := by simp at q1 ⊢; omega
          clear h q
          go_wp2_with fail
          refine (known_any _).mono ?_
          rintro e w3 ⟨rfl, hb3⟩
          go_wp2_with fail
          go_ret
          exact ⟨rfl, after_ (BV.trans ((hBr.alloc hBr.size _).mono BV.size)) hb3⟩
    · have z0 := y0.below hBr
      have z1 := y1.below hBr
      obtain ⟨c0, c1⟩ := z0.c2
      obtain ⟨d0, d1⟩ := z1.c2
      have l0 := z0.lt
      have l1 := z1.lt
      by_cases h : 0 ≤ ay ∧ ay ≤ 63
      · have q : decide (ay < 0) = false := by simp; omega
        have r : decide (63 < ay) = false := by simp; omega
        go_wp2_with fail
        go_roundw
        case rel => exact ⟨.inr (.inr (.inl ⟨rfl, Lib.hid ⟨H1.out, h⟩⟩)), hBr.alloc hBr.size _⟩
        case measure => simp [intOf]
      · by_cases q : decide (ay < 0) = true
        · clear h
          go_wp2_with fail
          refine (known_any _).mono ?_
          rintro e w3 ⟨rfl, hb3⟩
          go_wp2_with fail
          go_ret
          exact ⟨rfl, after_ (BV.trans ((hBr.alloc hBr.size _).mono BV.size)) hb3⟩
        · have q1 : decide (ay < 0) = false := by simpa using q
          have r : decide (63 < ay) = true := by simp at q1 ⊢; omega
          clear h q
          go_wp2_with fail
          refine (known_any _).mono ?_
          rintro e w3 ⟨rfl, hb3⟩
          go_wp2_with fail
          go_ret
          exact ⟨rfl, after_ (BV.trans ((hBr.alloc hBr.size _).mono BV.size)) hb3⟩
    · have z0 := y0.below hBr
      have z1 := y1.below hBr
      obtain ⟨c0, c1⟩ := z0.c2
      obtain ⟨d0, d1⟩ := z1.c2
      have l0 := z0.lt
      have l1 := z1.lt
      by_cases h : 0 ≤ bx ∧ bx ≤ 63
      · have q : decide (bx < 0) = false := by simp; omega
        have r : decide (63 < bx) = false := by simp; omega
        go_wp2_with fail
        go_roundw
        case rel => exact ⟨.inr (.inr (.inr (.inl ⟨rfl, Lib.hid ⟨H1.out.1, H1.out.2, h⟩⟩))), hBr.alloc hBr.size _⟩
        case measure => simp [intOf]
      · by_cases q : decide (bx < 0) = true
        · clear h
          go_wp2_with fail
          refine (known_any _).mono ?_
          rintro e w3 ⟨rfl, hb3⟩
          go_wp2_with fail
          go_ret
          exact ⟨rfl, after_ (BV.trans ((hBr.alloc hBr.size _).mono BV.size)) hb3⟩
        · have q1 : decide (bx < 0) = false := by simpa using q
          have r : decide (63 < bx) = true := by simp at q1 ⊢; omega
          clear h q
          go_wp2_with fail
          refine (known_any _).mono ?_
          rintro e w3 ⟨rfl, hb3⟩
          go_wp2_with fail
          go_ret
          exact ⟨rfl, after_ (BV.trans ((hBr.alloc hBr.size _).mono BV.size)) hb3⟩
    · have z0 := y0.below hBr
      have z1 := y1.below hBr
      obtain ⟨c0, c1⟩ := z0.c2
      obtain ⟨d0, d1⟩ := z1.c2
      have l0 := z0.lt
      have l1 := z1.lt
      by_cases h : 0 ≤ by' ∧ by' ≤ 63
      · have q : decide (by' < 0) = false := by simp; omega
        have r : decide (63 < by') = false := by simp; omega
        go_wp2_with fail
        go_roundw
        case rel => exact ⟨.inr (.inr (.inr (.inr (⟨rfl, Lib.hid ⟨H1.out.1, H1.out.2.1, H1.out.2.2, h⟩⟩)))), hBr.alloc hBr.size _⟩
        case measure => simp [intOf]
      · by_cases q : decide (by' < 0) = true
        · clear h
          go_wp2_with fail
          refine (known_any _).mono ?_
          rintro e w3 ⟨rfl, hb3⟩
          go_wp2_with fail
          go_ret
          exact ⟨rfl, after_ (BV.trans ((hBr.alloc hBr.size _).mono BV.size)) hb3⟩
        · have q1 : decide (by' < 0) = false := by simpa using q
          have r : decide (63 < by') = true := by simp at q1 ⊢; omega
          clear h q
          go_wp2_with fail
          refine (known_any _).mono ?_
          rintro e w3 ⟨rfl, hb3⟩
          go_wp2_with fail
          go_ret
          exact ⟨rfl, after_ (BV.trans ((hBr.alloc hBr.size _).mono BV.size)) hb3⟩
    · have := M.fine63_iff.2 H1.out
      rw [HF.out] at this
      cases this

theorem lossSquares_walk (ax ay bx by' : Int) (w : World) : Calls Try.prog 4 #[cv ax ay, cv bx by'] w (LawTrue w) := by
  cases h : M.fine63 ax ay bx by' with
  | true => exact lossSquares_ok ax ay bx by' w h
  | false => exact lossSquares_no ax ay bx by' w h
end Go.Proofs.Ytpbcbomlhcbfjaa
