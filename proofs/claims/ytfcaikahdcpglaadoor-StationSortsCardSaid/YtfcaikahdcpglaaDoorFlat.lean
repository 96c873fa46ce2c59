/- The reference's Flat of layer 10. -/
import Derived.Test.YtfcaikahdcpglaaDoorSort
namespace Go.Proofs.YtfcaikahdcpglaaDoor
open Go Go.RowKit
set_option maxRecDepth 100000

theorem push_far {v vo v' : Value} {w : World} (hlt : ∀ g, vo.ownBlock = some g → g < w.heap.size) (hne : vo.ownBlock = none ∨ vo.ownBlock ≠ v.ownBlock) (hat : ∀ b, v'.ownBlock = some b → v.ownBlock = some b ∨ w.heap.size ≤ b) : vo.ownBlock = none ∨ vo.ownBlock ≠ v'.ownBlock := by
  rcases hne with h | h
  · exact .inl h
  · cases ho : vo.ownBlock with
    | none => exact .inl rfl
    | some g =>
      right; intro e
      rcases hat g e.symm with h2 | h2
      · exact h (by rw [ho, h2])
      · have := hlt g ho; omega

theorem flip_far {a b : Value} (h : a.ownBlock = none ∨ a.ownBlock ≠ b.ownBlock) : b.ownBlock = none ∨ b.ownBlock ≠ a.ownBlock := by
  rcases h with h | h
  · cases hb : b.ownBlock with
    | none => exact .inl rfl
    | some g => right; rw [h]; simp
  · exact .inr (Ne.symm h)

def RetTer (w : World) (W H : Int) (G P : List Int) (e : Ending) (w' : World) : Prop :=
  ∃ GA gc PA pc, e = .returned (tv W H GA PA G.length gc P.length pc) ∧ Sl 1 icell w' w'.heap.size GA G ∧ Sl 1 icell w' w'.heap.size PA P ∧ Below w.heap.size w w'

set_option maxHeartbeats 8000000 in
theorem flat_ok (W H g p : Int) (N : Nat) (w : World) (hN : Hid (W * H = (N : Int))) (hNb : N ≤ 1000000) :
    Calls Tryd.prog 29 #[.int .i64 W, .int .i64 H, .int .i64 g, .int .i64 p] w (RetTer w W H (List.replicate N g) (List.replicate N p)) := by
  obtain ⟨V, HW, x0, x1, hB, hs⟩ := boxes2 w #[.int .i64 0, .int .i64 0, .slice none 0 0, .slice none 0 0] 24 #[.int .i64 W, .int .i64 H, .slice none 0 0, .slice none 0 0] 24
  have HS := Lib.hid hs
  clear hs
  obtain ⟨i0, hi, hz0, hz1, hz2⟩ := info_parts intInfo
  have Hi := Lib.hid hi; have Hz0 := Lib.hid hz0; have Hz1 := Lib.hid hz1; have Hz2 := Lib.hid hz2
  clear hi hz0 hz1 hz2
  have hmul := hN.out
  go_enter Tryd.func29, Tryd.ntmps29
  go_wp2_with fail
  rw [HW.out]
  go_loopw [10] (fun i wr => ∃ (k : Nat) (vG vP : Value), k ≤ N ∧ i = .int .i64 k ∧ Below w.heap.size w wr ∧ w.heap.size + 2 ≤ wr.heap.size ∧ Box wr w.heap.size #[.int .i64 0, .int .i64 0, .slice none 0 0, .slice none 0 0] 24 ∧ Box wr (w.heap.size + 1) #[.int .i64 W, .int .i64 H, vG, vP] 24 ∧ wr.ownsRow (w.heap.size + 2) 3 1 vG k (flat 1 icell (List.replicate k g)) ∧ wr.ownsRow (w.heap.size + 2) 3 1 vP k (flat 1 icell (List.replicate k p)) ∧ (vP.ownBlock = none ∨ vP.ownBlock ≠ vG.ownBlock)) (fun i _ => N - (intOf i).toNat)
  case atStart => exact ⟨0, .slice none 0 0, .slice none 0 0, Nat.zero_le _, rfl, hB, Nat.le_of_eq HS.out.symm, x0, x1, own_nil _ _ _ _ _, own_nil _ _ _ _ _, .inl rfl⟩
  case round =>
    clear x0 x1 hB
    obtain ⟨k, vG, vP, hk, rfl, hBw, hsz, X0, X1, oG, oP, hne⟩ := hrel
    obtain ⟨c0, c1, c2, c3⟩ := X1.c4
    by_cases hlt : k < N
    · have HRG : Hid (List.replicate (k + 1) g = List.replicate k g ++ [g]) := Lib.hid List.replicate_succ'
      have HRP : Hid (List.replicate (k + 1) p = List.replicate k p ++ [p]) := Lib.hid List.replicate_succ'
      have HLG : Hid ((List.replicate k g ++ [g]).length = k + 1) := Lib.hid (by simp)
      have HLP : Hid ((List.replicate k p ++ [p]).length = k + 1) := Lib.hid (by simp)
      have nG : ∀ b, b < w.heap.size + 2 → some b ≠ vG.ownBlock := fun b hb e => by have := (oG.lt b e.symm).1; omega
      have nP : ∀ b, b < w.heap.size + 2 → some b ≠ vP.ownBlock := fun b hb e => by have := (oP.lt b e.symm).1; omega
      have HNG := Lib.hid nG
      have HNP := Lib.hid nP
      clear nG nP
      go_wp2_with (first
        | (at_builtin; refine wpList_push2 (w := wr) (w0 := w) (cell := icell) (y := g) rfl _ _ _ rfl (w.heap.size + 2) w.heap.size 3 i0 _ 8 Tryd.underlying22 Hi.out Hz0.out Hz1.out Hz2.out rfl (by decide) vG k _ rfl oG _ _ rfl _ rfl (i_one _) (by unfold maxLen; omega) (by omega) hsz (by omega) hBw ?_; intro vG1 w1 oG1 bG1 gG1 aG1; obtain ⟨AG, cG, rfl, _⟩ := own_slice (by decide) oG1; rw [HLG.out] at oG1 aG1 ⊢; have Y0 := X0.grown gG1 (HNG.out _ (by omega)); have Y1 := X1.grown gG1 (HNG.out _ (by omega)); have oP1 := oP.kept gG1 hne; have ne1 := push_far (v := vG) (fun b hb => (oP.lt b hb).2) hne aG1; obtain ⟨d0, d1, d2, d3⟩ := Y1.c4; have f2 := Y1.frozen 2; have Z0 := Y0.set_other (p := ⟨w.heap.size + 1, 2, none⟩) (by dsimp only; omega) (Value.slice AG (k + 1) cG); have Z1 := Y1.set 2 (Value.slice AG (k + 1) cG); have oG2 := ownsRow_setCell_below oG1 (a := ⟨w.heap.size + 1, 2, none⟩) (by dsimp only; omega) (Value.slice AG (k + 1) cG); have oP2 := ownsRow_setCell_below oP1 (a := ⟨w.heap.size + 1, 2, none⟩) (by dsimp only; omega) (Value.slice AG (k + 1) cG); have b2 := bG1.setCell (p := ⟨w.heap.size + 1, 2, none⟩) (by dsimp only; omega) (Value.slice AG (k + 1) cG); have s2 : w.heap.size + 2 ≤ (w1.setCell ⟨w.heap.size + 1, 2, none⟩ (Value.slice AG (k + 1) cG)).heap.size := (by rw [World.size_setCell]; exact Nat.le_trans hsz gG1.size); clear c0 c1 c2 c3 oG oP oG1 oP1 bG1)
        | (at_builtin; refine wpList_push2 (w := w1.setCell ⟨w.heap.size + 1, 2, none⟩ (Value.slice AG (k + 1) cG)) (w0 := w) (cell := icell) (y := p) rfl _ _ _ rfl (w.heap.size + 2) w.heap.size 3 i0 _ 8 Tryd.underlying22 Hi.out Hz0.out Hz1.out Hz2.out rfl (by decide) vP k _ rfl oP2 _ _ rfl _ (by rw [World.size_setCell]; rfl) (i_one _) (by unfold maxLen; omega) (by omega) s2 (by omega) b2 ?_; intro vP3 w3 oP3 bP3 gP3 aP3; obtain ⟨AP, cP, rfl, _⟩ := own_slice (by decide) oP3; rw [HLP.out] at oP3 aP3 ⊢; have U0 := Z0.grown gP3 (HNP.out _ (by omega)); have U1 := Z1.grown gP3 (HNP.out _ (by omega)); have oG3 := oG2.kept gP3 (flip_far ne1); have f3 := U1.frozen 3; have e3 : w3.cell? ⟨w.heap.size + 1, 3, none⟩ = some vP := U1.cell 3 rfl))
      have W0 := U0.set_other (p := ⟨w.heap.size + 1, 3, none⟩) (by dsimp only; omega) (Value.slice AP (k + 1) cP)
      have W1 := U1.set 3 (Value.slice AP (k + 1) cP)
      have oG4 := ownsRow_setCell_below oG3 (a := ⟨w.heap.size + 1, 3, none⟩) (by dsimp only; omega) (Value.slice AP (k + 1) cP)
      have oP4 := ownsRow_setCell_below oP3 (a := ⟨w.heap.size + 1, 3, none⟩) (by dsimp only; omega) (Value.slice AP (k + 1) cP)
      have b4 := bP3.setCell (p := ⟨w.heap.size + 1, 3, none⟩) (by dsimp only; omega) (Value.slice AP (k + 1) cP)
      have s4 : w.heap.size + 2 ≤ (w3.setCell ⟨w.heap.size + 1, 3, none⟩ (Value.slice AP (k + 1) cP)).heap.size := by rw [World.size_setCell]; exact Nat.le_trans s2 gP3.size
      have ne4 := flip_far (push_far (v := vP) (vo := Value.slice AG (k + 1) cG) (fun b hb => (oG2.lt b hb).2) (flip_far ne1) aP3)
      rw [← HRG.out] at oG4
      rw [← HRP.out] at oP4
      go_roundw
      case rel => exact ⟨k + 1, _, _, hlt, by go_num, b4, s4, W0, W1, oG4, oP4, ne4⟩
      case measure => simp [intOf]; omega
    · obtain rfl : k = N := by omega
      obtain ⟨AG, cG, rfl, SG⟩ := own_slice (by decide) oG
      obtain ⟨AP, cP, rfl, SP⟩ := own_slice (by decide) oP
      obtain ⟨d0, d1, d2, d3⟩ := X0.c4
      have f0 := X0.frozen 0; have f1 := X0.frozen 1; have f2 := X0.frozen 2; have f3 := X0.frozen 3
      have fG : Hid (∀ ad, AG = some ad → ad.block ≠ w.heap.size) := Lib.hid (fun ad h => by have := (own_cap oG).2.2 ad h; omega)
      have fP : Hid (∀ ad, AP = some ad → ad.block ≠ w.heap.size) := Lib.hid (fun ad h => by have := (own_cap oP).2.2 ad h; omega)
      clear oG oP
      go_wp2_with fail
      refine bodyPost_ret (v := tv W H AG AP (List.replicate k g).length cG (List.replicate k p).length cP) ?_ rfl ⟨AG, cG, AP, cP, rfl, ?_, ?_, ?_⟩
      · simp [results, Tryd.results29, go_sem, d0, d1, d2, d3]
      · refine Sl.more ?_ (show wr.heap.size ≤ _ by simp)
        iterate 4 refine Sl.setFar ?_ (fun ad h => fG.out ad h) _
        exact SG
      · refine Sl.more ?_ (show wr.heap.size ≤ _ by simp)
        iterate 4 refine Sl.setFar ?_ (fun ad h => fP.out ad h) _
        exact SP
      · iterate 4 refine Below.setCell ?_ (by dsimp only; omega) _
        exact hBw
end Go.Proofs.YtfcaikahdcpglaaDoor
