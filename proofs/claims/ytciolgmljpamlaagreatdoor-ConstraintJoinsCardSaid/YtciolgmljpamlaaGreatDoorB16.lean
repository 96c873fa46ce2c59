/- A bundle of texts: Ref11, Ant. -/
import Derived.Test.YtciolgmljpamlaaGreatDoorB11
import Derived.Test.YtciolgmljpamlaaGreatDoorB14
import Derived.Test.YtciolgmljpamlaaGreatDoorB15
import Derived.Test.YtciolgmljpamlaaGreatDoorB09
section
namespace Go.Proofs.YtciolgmljpamlaaGreatDoor
open Go Go.RowKit
set_option maxRecDepth 100000
end Go.Proofs.YtciolgmljpamlaaGreatDoor
end

section
namespace Go.Proofs.YtciolgmljpamlaaGreatDoor
open Go Go.RowKit
set_option maxRecDepth 100000
abbrev av (h : Int) (A : Option Addr) (n c : Nat) : Value := .agg #[.int .i64 h, .slice A n c]
structure Tab (w : World) : Prop where
  c0 : w.cell? ⟨1, 0, none⟩ = some (.int .i64 1)
  c1 : w.cell? ⟨1, 1, none⟩ = some (.int .i64 0)
  c2 : w.cell? ⟨1, 2, none⟩ = some (.int .i64 0)
  c3 : w.cell? ⟨1, 3, none⟩ = some (.int .i64 1)
  c4 : w.cell? ⟨1, 4, none⟩ = some (.int .i64 0)
  c5 : w.cell? ⟨1, 5, none⟩ = some (.int .i64 1)
  c6 : w.cell? ⟨1, 6, none⟩ = some (.int .i64 (-1))
  c7 : w.cell? ⟨1, 7, none⟩ = some (.int .i64 0)
  c8 : w.cell? ⟨1, 8, none⟩ = some (.int .i64 (-1))
  c9 : w.cell? ⟨1, 9, none⟩ = some (.int .i64 0)
  c10 : w.cell? ⟨1, 10, none⟩ = some (.int .i64 0)
  c11 : w.cell? ⟨1, 11, none⟩ = some (.int .i64 (-1))
  c12 : w.cell? ⟨1, 12, none⟩ = some (.int .i64 0)
  c13 : w.cell? ⟨1, 13, none⟩ = some (.int .i64 (-1))
  c14 : w.cell? ⟨1, 14, none⟩ = some (.int .i64 1)
  c15 : w.cell? ⟨1, 15, none⟩ = some (.int .i64 0)
theorem Tab.lt {w : World} (h : Tab w) : 1 < w.heap.size := by
  apply Nat.lt_of_not_le; intro hle
  have := h.c0
  simp [World.cell?, Array.getElem?_eq_none hle] at this
theorem Tab.kept {w w' : World} (h : Tab w) (hb : Below w.heap.size w w') : Tab w' := by
  have hl := h.lt
  have k : ∀ j, w'.cell? ⟨1, j, none⟩ = w.cell? ⟨1, j, none⟩ := fun j => hb.cell (p := ⟨1, j, none⟩) hl
  exact ⟨(k 0).trans h.c0, (k 1).trans h.c1, (k 2).trans h.c2, (k 3).trans h.c3, (k 4).trans h.c4, (k 5).trans h.c5, (k 6).trans h.c6, (k 7).trans h.c7, (k 8).trans h.c8, (k 9).trans h.c9, (k 10).trans h.c10, (k 11).trans h.c11, (k 12).trans h.c12, (k 13).trans h.c13, (k 14).trans h.c14, (k 15).trans h.c15⟩
set_option maxHeartbeats 1000000 in
theorem tooFar_no (d : Int) (w : World) (h : -1000 ≤ d ∧ d ≤ 1000) : Calls Tryz.prog 199 #[.int .i64 d] w fun e w' => e = .returned (.bool false) ∧ w = w' := by
  have q1 : decide (d < -1048576) = false := by simp; omega
  have q2 : decide (1048576 < d) = false := by simp; omega
  go_enter Tryz.func199, Tryz.ntmps199
  go_wp2_with fail
  go_ret
  exact ⟨rfl, rfl⟩
set_option maxHeartbeats 2000000 in
theorem steps_any (u v : Int) (w : World) (hu : -1000 ≤ u ∧ u ≤ 1000) (hv : -1000 ≤ v ∧ v ≤ 1000) : Calls Tryz.prog 200 #[.int .i64 u, .int .i64 v] w fun e w' => e = .returned (.int .i64 (M.steps u v)) ∧ w = w' := by
  have HS : Hid (M.steps u v = if 2 * u ≤ v then 3 else if u ≤ v then 2 else if u ≤ 2 * v then 1 else 0) := Lib.hid rfl
  by_cases h1 : 2 * u ≤ v
  · have HF : Hid ((3 : Int) = M.steps u v) := Lib.hid (by rw [HS.out, if_pos h1])
    go_enter Tryz.func200, Tryz.ntmps200
    go_wp2_with fail
    go_ret
    exact ⟨ret_int HF.out, rfl⟩
  · by_cases h2 : u ≤ v
    · have HF : Hid ((2 : Int) = M.steps u v) := Lib.hid (by rw [HS.out, if_neg h1, if_pos h2])
      go_enter Tryz.func200, Tryz.ntmps200
      go_wp2_with fail
      go_ret
      exact ⟨ret_int HF.out, rfl⟩
    · by_cases h3 : u ≤ 2 * v
      · have HF : Hid ((1 : Int) = M.steps u v) := Lib.hid (by rw [HS.out, if_neg h1, if_neg h2, if_pos h3])
        go_enter Tryz.func200, Tryz.ntmps200
        go_wp2_with fail
        go_ret
        exact ⟨ret_int HF.out, rfl⟩
      · have HF : Hid ((0 : Int) = M.steps u v) := Lib.hid (by rw [HS.out, if_neg h1, if_neg h2, if_neg h3])
        go_enter Tryz.func200, Tryz.ntmps200
        go_wp2_with fail
        go_ret
        exact ⟨ret_int HF.out, rfl⟩
set_option maxHeartbeats 4000000 in
theorem direction_ok (dx dy : Int) (w : World) (ht : Tab w) (hx : -100 ≤ dx ∧ dx ≤ 100) (hy : -100 ≤ dy ∧ dy ≤ 100) (h0 : ¬ (dx = 0 ∧ dy = 0)) :
    Calls Tryz.prog 178 #[.int .i64 dx, .int .i64 dy] w fun e w' => e = .returned (.tuple #[.int .i64 (M.dir dx dy), .int .i64 0]) ∧ Below w.heap.size w w' := by
  obtain ⟨c0, c1, c2, c3, c4, c5, c6, c7, c8, c9, c10, c11, c12, c13, c14, c15⟩ := ht
  go_enter Tryz.func178, Tryz.ntmps178
  go_wp2_with fail
  refine (tooFar_no dx w (by omega)).mono ?_
  rintro e w1 ⟨rfl, rfl⟩
  go_wp2_with fail
  refine (tooFar_no dy w (by omega)).mono ?_
  rintro e w1 ⟨rfl, rfl⟩
  go_wp2_with fail
  have j0 : ∀ w, (Instr.index 225 (.agg #[.int .i64 1, .int .i64 0, .int .i64 0, .int .i64 1, .int .i64 0, .int .i64 1, .int .i64 (-1), .int .i64 0, .int .i64 (-1), .int .i64 0, .int .i64 0, .int .i64 (-1), .int .i64 0, .int .i64 (-1), .int .i64 1, .int .i64 0]) (.int .i64 0)).run Tryz.prog w = .ok (.agg #[.int .i64 1, .int .i64 0, .int .i64 0, .int .i64 1]) w := fun _ => by kernel_rfl
  have j1 : ∀ w, (Instr.index 225 (.agg #[.int .i64 1, .int .i64 0, .int .i64 0, .int .i64 1, .int .i64 0, .int .i64 1, .int .i64 (-1), .int .i64 0, .int .i64 (-1), .int .i64 0, .int .i64 0, .int .i64 (-1), .int .i64 0, .int .i64 (-1), .int .i64 1, .int .i64 0]) (.int .i64 1)).run Tryz.prog w = .ok (.agg #[.int .i64 0, .int .i64 1, .int .i64 (-1), .int .i64 0]) w := fun _ => by kernel_rfl
  have j2 : ∀ w, (Instr.index 225 (.agg #[.int .i64 1, .int .i64 0, .int .i64 0, .int .i64 1, .int .i64 0, .int .i64 1, .int .i64 (-1), .int .i64 0, .int .i64 (-1), .int .i64 0, .int .i64 0, .int .i64 (-1), .int .i64 0, .int .i64 (-1), .int .i64 1, .int .i64 0]) (.int .i64 2)).run Tryz.prog w = .ok (.agg #[.int .i64 (-1), .int .i64 0, .int .i64 0, .int .i64 (-1)]) w := fun _ => by kernel_rfl
  have j3 : ∀ w, (Instr.index 225 (.agg #[.int .i64 1, .int .i64 0, .int .i64 0, .int .i64 1, .int .i64 0, .int .i64 1, .int .i64 (-1), .int .i64 0, .int .i64 (-1), .int .i64 0, .int .i64 0, .int .i64 (-1), .int .i64 0, .int .i64 (-1), .int .i64 1, .int .i64 0]) (.int .i64 3)).run Tryz.prog w = .ok (.agg #[.int .i64 0, .int .i64 (-1), .int .i64 1, .int .i64 0]) w := fun _ => by kernel_rfl
  have HD : Hid (M.dir dx dy = if (0 < dx ∧ 0 ≤ dy) then M.steps dx dy else if (0 < dy ∧ 0 ≤ -dx) then 4 + M.steps dy (-dx) else if (0 < -dx ∧ 0 ≤ -dy) then 8 + M.steps (-dx) (-dy) else 12 + M.steps (-dy) dx) := Lib.hid rfl
  clear c0 c1 c2 c3 c4 c5 c6 c7 c8 c9 c10 c11 c12 c13 c14 c15
  go_loopw [6, 7, 8, 9, 17] (fun _ _ _ _ i wr => (i = .int .i64 0 ∨ (i = .int .i64 1 ∧ Hid (¬ (0 < dx ∧ 0 ≤ dy))) ∨ (i = .int .i64 2 ∧ Hid (¬ (0 < dx ∧ 0 ≤ dy) ∧ ¬ (0 < dy ∧ 0 ≤ -dx))) ∨ (i = .int .i64 3 ∧ Hid (¬ (0 < dx ∧ 0 ≤ dy) ∧ ¬ (0 < dy ∧ 0 ≤ -dx) ∧ ¬ (0 < -dx ∧ 0 ≤ -dy)))) ∧ Below w.heap.size w wr) (fun _ _ _ _ i _ => 4 - (intOf i).toNat)
  case atStart => exact ⟨.inl rfl, Below.refl _ _⟩
  case round =>
    obtain ⟨rfl | ⟨rfl, H1⟩ | ⟨rfl, H1⟩ | ⟨rfl, H1⟩, hBr⟩ := hrel
    · by_cases hc : (0 < dx ∧ 0 ≤ dy)
      · have HF : Hid (M.steps dx dy = M.dir dx dy) := Lib.hid (by rw [HD.out, if_pos hc])
        have hsb := M.steps_bd dx dy
        obtain ⟨hcu, hcv⟩ := hc
        have qu : decide (0 < dx) = true := by simp; omega
        have qv : decide (0 ≤ dy) = true := by simp; omega
        go_wp2_with fail
        refine (steps_any _ _ _ (by omega) (by omega)).mono ?_
        rintro e w2 ⟨rfl, rfl⟩
        generalize M.steps dx dy = S at *
        go_wp2_with fail
        go_ret2
        exact ⟨ret_int2 (by rw [← HF.out]) rfl, hBr.alloc hBr.size _⟩
      · have HN := Lib.hid hc
        by_cases hu : 0 < dx
        · have hv : ¬ 0 ≤ dy := fun h => hc ⟨hu, h⟩
          clear hc
          have qu : decide (0 < dx) = true := by simp; omega
          have qv : decide (0 ≤ dy) = false := by simp; omega
          go_wp2_with fail
          go_roundw
          case rel => exact ⟨.inr (.inl ⟨rfl, HN⟩), hBr.alloc hBr.size _⟩
          case measure => simp [intOf]
        · clear hc
          have qu : decide (0 < dx) = false := by simp; omega
          go_wp2_with fail
          go_roundw
          case rel => exact ⟨.inr (.inl ⟨rfl, HN⟩), hBr.alloc hBr.size _⟩
          case measure => simp [intOf]
    · by_cases hc : (0 < dy ∧ 0 ≤ -dx)
      · have HF : Hid (4 + M.steps dy (-dx) = M.dir dx dy) := Lib.hid (by rw [HD.out, if_neg (H1.out), if_pos hc])
        have hsb := M.steps_bd dy (-dx)
        obtain ⟨hcu, hcv⟩ := hc
        have qu : decide (0 < dy) = true := by simp; omega
        have qv : decide (0 ≤ -dx) = true := by simp; omega
        have qv2 : decide (dx ≤ 0) = true := by simp; omega
        go_wp2_with fail
        refine (steps_any _ _ _ (by omega) (by omega)).mono ?_
        rintro e w2 ⟨rfl, rfl⟩
        generalize M.steps dy (-dx) = S at *
        go_wp2_with fail
        go_ret2
        exact ⟨ret_int2 (by rw [← HF.out]) rfl, hBr.alloc hBr.size _⟩
      · have HN := Lib.hid (And.intro H1.out hc)
        by_cases hu : 0 < dy
        · have hv : ¬ 0 ≤ -dx := fun h => hc ⟨hu, h⟩
          clear hc
          have qu : decide (0 < dy) = true := by simp; omega
          have qv : decide (0 ≤ -dx) = false := by simp; omega
          have qv2 : decide (dx ≤ 0) = false := by simp; omega
          go_wp2_with fail
          go_roundw
          case rel => exact ⟨.inr (.inr (.inl ⟨rfl, HN⟩)), hBr.alloc hBr.size _⟩
          case measure => simp [intOf]
        · clear hc
          have qu : decide (0 < dy) = false := by simp; omega
          go_wp2_with fail
          go_roundw
          case rel => exact ⟨.inr (.inr (.inl ⟨rfl, HN⟩)), hBr.alloc hBr.size _⟩
          case measure => simp [intOf]
    · by_cases hc : (0 < -dx ∧ 0 ≤ -dy)
      · have HF : Hid (8 + M.steps (-dx) (-dy) = M.dir dx dy) := Lib.hid (by rw [HD.out, if_neg (H1.out.1), if_neg (H1.out.2), if_pos hc])
        have hsb := M.steps_bd (-dx) (-dy)
        obtain ⟨hcu, hcv⟩ := hc
        have qu : decide (0 < -dx) = true := by simp; omega
        have qu2 : decide (dx < 0) = true := by simp; omega
        have qv : decide (0 ≤ -dy) = true := by simp; omega
        have qv2 : decide (dy ≤ 0) = true := by simp; omega
        go_wp2_with fail
        refine (steps_any _ _ _ (by omega) (by omega)).mono ?_
        rintro e w2 ⟨rfl, rfl⟩
        generalize M.steps (-dx) (-dy) = S at *
        go_wp2_with fail
        go_ret2
        exact ⟨ret_int2 (by rw [← HF.out]) rfl, hBr.alloc hBr.size _⟩
      · have HN := Lib.hid (And.intro H1.out.1 (And.intro H1.out.2 hc))
        by_cases hu : 0 < -dx
        · have hv : ¬ 0 ≤ -dy := fun h => hc ⟨hu, h⟩
          clear hc
          have qu : decide (0 < -dx) = true := by simp; omega
          have qu2 : decide (dx < 0) = true := by simp; omega
          have qv : decide (0 ≤ -dy) = false := by simp; omega
          have qv2 : decide (dy ≤ 0) = false := by simp; omega
          go_wp2_with fail
          go_roundw
          case rel => exact ⟨.inr (.inr (.inr (⟨rfl, HN⟩))), hBr.alloc hBr.size _⟩
          case measure => simp [intOf]
        · clear hc
          have qu : decide (0 < -dx) = false := by simp; omega
          have qu2 : decide (dx < 0) = false := by simp; omega
          go_wp2_with fail
          go_roundw
          case rel => exact ⟨.inr (.inr (.inr (⟨rfl, HN⟩))), hBr.alloc hBr.size _⟩
          case measure => simp [intOf]
    · have hc : (0 < -dy ∧ 0 ≤ dx) := by have := H1.out; omega
      have HF : Hid (12 + M.steps (-dy) dx = M.dir dx dy) := Lib.hid (by rw [HD.out, if_neg (H1.out.1), if_neg (H1.out.2.1), if_neg (H1.out.2.2)])
      have hsb := M.steps_bd (-dy) dx
      obtain ⟨hcu, hcv⟩ := hc
      have qu : decide (0 < -dy) = true := by simp; omega
      have qu2 : decide (dy < 0) = true := by simp; omega
      have qv : decide (0 ≤ dx) = true := by simp; omega
      go_wp2_with fail
      refine (steps_any _ _ _ (by omega) (by omega)).mono ?_
      rintro e w2 ⟨rfl, rfl⟩
      generalize M.steps (-dy) dx = S at *
      go_wp2_with fail
      go_ret2
      exact ⟨ret_int2 (by rw [← HF.out]) rfl, hBr.alloc hBr.size _⟩
end Go.Proofs.YtciolgmljpamlaaGreatDoor
end
