/- Layer 13: the reference's Strongest. -/
import Derived.Test.YtfcaikahdcpglaaDoorStS
namespace Go.Proofs.YtfcaikahdcpglaaDoor
open Go Go.RowKit
set_option maxRecDepth 100000

set_option maxHeartbeats 16000000 in
theorem rStrongest_ok (W H : Int) (GA PA : Option Addr) (gc pc : Nat) (G P : List Int) (LA : Option Addr) (lc : Nat) (es : List SE) (cx cy : Int) (w : World) (hg : Sl 1 icell w w.heap.size GA G) (hL : Sl 8 secell w w.heap.size LA es) (hP : Pats w es)
    (hl : es.length ≤ 1000) (hok : ∀ k (hk : k < es.length), M.okF W H G P es[k].s cx cy = true) (hne : 0 < es.length) :
    Calls Tryd.prog 15 #[tv W H GA PA G.length gc P.length pc, .slice LA es.length lc, cv cx cy] w fun e w' => (∃ j : Nat, ∃ hj : j < es.length, e = .returned (.int .i64 j) ∧ M.strong W G cx cy (es.map (·.s)) = (es[j].s.id, M.field W G es[j].s cx cy)) ∧ Below w.heap.size w w' := by
  obtain ⟨V, HW, x0, x1, hB, -⟩ := boxes2 w #[.int .i64 W, .int .i64 H, .slice GA G.length gc, .slice PA P.length pc] 24 #[.int .i64 cx, .int .i64 cy] 30
  have hgV := (hg.below hB).more hB.size
  have HOK := Lib.hid hok
  clear hok
  go_enter Tryd.func15, Tryd.ntmps15
  go_wp2_with fail
  rw [HW.out]
  go_loopw [7, 8] (fun b i wr => ∃ k : Nat, k ≤ es.length ∧ i = .int .i64 k ∧ Below w.heap.size w wr ∧ Below V.heap.size V wr ∧ ((k = 0 ∧ b = .int .i64 (-1)) ∨ ∃ j, ∃ hj : j < es.length, j < k ∧ b = .int .i64 j ∧ Hid (M.strong W G cx cy ((es.map (·.s)).take k) = (es[j].s.id, M.field W G es[j].s cx cy)))) (fun _ i _ => es.length - (intOf i).toNat)
  case atStart => exact ⟨0, Nat.zero_le _, rfl, hB, Below.refl _ _, .inl ⟨rfl, rfl⟩⟩
  case round =>
    obtain ⟨k, hk, rfl, hBw, hBr, hcase⟩ := hrel
    by_cases hlt : k < es.length
    · have hg1 := (hgV.below hBr).more hBr.size
      have L1 := (hL.below hBw).more hBw.size
      obtain ⟨la, rfl, hlb, a0, a1, a2, a3, a4, a5, a6, a7⟩ := L1.st8 hlt
      have hS1 := (hP.below hBw).at_ hlt
      have kF1 : Hid (∀ w1, Sl 1 icell w1 w1.heap.size GA G → Sl 1 icell w1 w1.heap.size es[k].A es[k].s.pat → Calls Tryd.prog 12 #[tv W H GA PA G.length gc P.length pc, stv es[k].s es[k].A es[k].c, cv cx cy] w1 fun e w' => e = .returned (.int .i64 (M.field W G es[k].s cx cy)) ∧ Below w1.heap.size w1 w') := Lib.hid (fun w1 h1 h2 => rField_ok W H GA PA gc pc G P _ _ _ cx cy w1 h1 h2 (HOK.out k hlt))
      have HT : Hid ((es.map (·.s)).take (k + 1) = (es.map (·.s)).take k ++ [es[k].s]) := Lib.hid (by rw [List.take_succ_eq_append_getElem (by simpa using hlt)]; simp)
      have HSS := Lib.hid (M.strong_snoc W G cx cy ((es.map (·.s)).take k) es[k].s)
      rw [← HT.out] at HSS
      have hfb := M.field_bd (HOK.out k hlt)
      have y0 := x0.below hBr
      have y1 := x1.below hBr
      obtain ⟨c0, c1, c2, c3⟩ := y0.c4
      obtain ⟨d0, d1⟩ := y1.c2
      have l0 := y0.lt
      have l1 := y1.lt
      have HJ : Hid (∀ s, es[k].s = s → s = es[k].s) := Lib.hid (fun s h => h.symm)
      rcases hcase with ⟨rfl, rfl⟩ | ⟨j, hj, hjk, rfl, HST⟩
      · have HX : Hid (M.strong W G cx cy ((es.map (·.s)).take 1) = (es[0].s.id, M.field W G es[0].s cx cy)) := Lib.hid (by
          have := HSS.out
          simp only [List.take_zero] at this
          rw [this]
          unfold M.sstep M.strong
          simp)
        have q1 : decide ((-1 : Int) < 0) = true := by decide
        have kF2 := kF1
        have hS2 := hS1
        go_wp2_with fail
        refine wp_region_kept wr.heap.size wr (by kernel_rfl) (by kernel_rfl) (Below.refl _ _) ?_
        repeat (go_big_quiet_step ((first | (go_at_call 12; with_reducible exact Kept.calls (Nat.le_refl _) (kF1.out _ hg1.kept hS1.kept)) | (go_at_call 12; with_reducible exact Kept.calls (Nat.le_refl _) (kF2.out _ hg1.kept hS2.kept)))))
        refine wpQuiet_nil ?_
        rintro w1 ⟨⟨_, hb1⟩, rfl⟩
        go_wp2_with fail
        go_roundw
        case rel => exact ⟨0 + 1, hlt, by go_num, after_ hBw hb1, after_ hBr hb1, .inr ⟨0, hlt, by omega, rfl, Lib.hid (HX.out)⟩⟩
        case measure => simp [intOf]; omega
      · obtain ⟨la', e', hlb', a0', a1', a2', a3', a4', a5', a6', a7'⟩ := L1.st8 hj
        obtain rfl : la = la' := by simpa using e'
        clear e'
        have hS2 := (hP.below hBw).at_ hj
        have kF2 : Hid (∀ w1, Sl 1 icell w1 w1.heap.size GA G → Sl 1 icell w1 w1.heap.size es[j].A es[j].s.pat → Calls Tryd.prog 12 #[tv W H GA PA G.length gc P.length pc, stv es[j].s es[j].A es[j].c, cv cx cy] w1 fun e w' => e = .returned (.int .i64 (M.field W G es[j].s cx cy)) ∧ Below w1.heap.size w1 w') := Lib.hid (fun w1 h1 h2 => rField_ok W H GA PA gc pc G P _ _ _ cx cy w1 h1 h2 (HOK.out j hj))
        have hfb2 := M.field_bd (HOK.out j hj)
        have hid : 0 ≤ es[j].s.id := by
          have h := HOK.out j hj
          unfold M.okF at h
          rw [Bool.and_eq_true] at h
          exact (M.svalid_iff.1 h.1).1.1
        have HX : Hid (M.strong W G cx cy ((es.map (·.s)).take (k + 1)) = if M.field W G es[j].s cx cy < M.field W G es[k].s cx cy ∨ (M.field W G es[k].s cx cy = M.field W G es[j].s cx cy ∧ es[k].s.id < es[j].s.id) then (es[k].s.id, M.field W G es[k].s cx cy) else (es[j].s.id, M.field W G es[j].s cx cy)) := Lib.hid (by
          rw [HSS.out, HST.out]
          unfold M.sstep
          dsimp only
          have : ¬ es[j].s.id < 0 := by omega
          simp only [this, false_or])
        clear HSS HST HT
        have HE : Hid (∀ (a : SE) (b : SE), a = es[k] → b = es[j] → M.strong W G cx cy ((es.map (·.s)).take (k + 1)) = if M.field W G b.s cx cy < M.field W G a.s cx cy ∨ (M.field W G a.s cx cy = M.field W G b.s cx cy ∧ a.s.id < b.s.id) then (a.s.id, M.field W G a.s cx cy) else (b.s.id, M.field W G b.s cx cy)) := Lib.hid (fun a b h1 h2 => by rw [h1, h2]; exact HX.out)
        have hjn : ¬ ((j : Int) < 0) := by omega
        have q0 : decide ((j : Int) < 0) = false := decide_eq_false hjn
        by_cases g1 : M.field W G es[j].s cx cy < M.field W G es[k].s cx cy
        · have q1 : decide (M.field W G es[j].s cx cy < M.field W G es[k].s cx cy) = true := decide_eq_true g1
          have HY := Lib.hid (HX.out.trans (if_pos (.inl g1)))
          go_wp2_with fail
          refine wp_region_kept wr.heap.size wr (by kernel_rfl) (by kernel_rfl) (Below.refl _ _) ?_
          repeat (go_big_quiet_step ((first | (go_at_call 12; with_reducible exact Kept.calls (Nat.le_refl _) (kF1.out _ hg1.kept hS1.kept)) | (go_at_call 12; with_reducible exact Kept.calls (Nat.le_refl _) (kF2.out _ hg1.kept hS2.kept)))))
          refine wpQuiet_nil ?_
          rintro w1 ⟨⟨_, hb1⟩, rfl⟩
          go_wp2_with fail
          go_roundw
          case rel => exact ⟨k + 1, hlt, by go_num, after_ hBw hb1, after_ hBr hb1, .inr ⟨k, hlt, by omega, rfl, Lib.hid (HY.out)⟩⟩
          case measure => simp [intOf]; omega
        have q1 : decide (M.field W G es[j].s cx cy < M.field W G es[k].s cx cy) = false := decide_eq_false g1
        by_cases g2 : M.field W G es[k].s cx cy = M.field W G es[j].s cx cy
        · have q2 : (M.field W G es[k].s cx cy == M.field W G es[j].s cx cy) = true := by simp [g2]
          by_cases g3 : es[k].s.id < es[j].s.id
          · have q3 : decide (es[k].s.id < es[j].s.id) = true := decide_eq_true g3
            have HY := Lib.hid (HX.out.trans (if_pos (.inr ⟨g2, g3⟩)))
            clear g2
            go_wp2_with fail
            refine wp_region_kept wr.heap.size wr (by kernel_rfl) (by kernel_rfl) (Below.refl _ _) ?_
            repeat (go_big_quiet_step ((first | (go_at_call 12; with_reducible exact Kept.calls (Nat.le_refl _) (kF1.out _ hg1.kept hS1.kept)) | (go_at_call 12; with_reducible exact Kept.calls (Nat.le_refl _) (kF2.out _ hg1.kept hS2.kept)))))
            refine wpQuiet_nil ?_
            rintro w1 ⟨⟨_, hb1⟩, rfl⟩
            go_wp2_with fail
            go_roundw
            case rel => exact ⟨k + 1, hlt, by go_num, after_ hBw hb1, after_ hBr hb1, .inr ⟨k, hlt, by omega, rfl, Lib.hid (HY.out)⟩⟩
            case measure => simp [intOf]; omega
          have q3 : decide (es[k].s.id < es[j].s.id) = false := decide_eq_false g3
          have HY := Lib.hid (HX.out.trans (if_neg (fun h => h.elim g1 (fun h => g3 h.2))))
          clear g2
          go_wp2_with fail
          refine wp_region_kept wr.heap.size wr (by kernel_rfl) (by kernel_rfl) (Below.refl _ _) ?_
          repeat (go_big_quiet_step ((first | (go_at_call 12; with_reducible exact Kept.calls (Nat.le_refl _) (kF1.out _ hg1.kept hS1.kept)) | (go_at_call 12; with_reducible exact Kept.calls (Nat.le_refl _) (kF2.out _ hg1.kept hS2.kept)))))
          refine wpQuiet_nil ?_
          rintro w1 ⟨⟨_, hb1⟩, rfl⟩
          go_wp2_with fail
          go_roundw
          case rel => exact ⟨k + 1, hlt, by go_num, after_ hBw hb1, after_ hBr hb1, .inr ⟨j, hj, by omega, rfl, Lib.hid (HY.out)⟩⟩
          case measure => simp [intOf]; omega
        have q2 : (M.field W G es[k].s cx cy == M.field W G es[j].s cx cy) = false := by simp [g2]
        have HY := Lib.hid (HX.out.trans (if_neg (fun h => h.elim g1 (fun h => g2 h.1))))
        go_wp2_with fail
        refine wp_region_kept wr.heap.size wr (by kernel_rfl) (by kernel_rfl) (Below.refl _ _) ?_
        repeat (go_big_quiet_step ((first | (go_at_call 12; with_reducible exact Kept.calls (Nat.le_refl _) (kF1.out _ hg1.kept hS1.kept)) | (go_at_call 12; with_reducible exact Kept.calls (Nat.le_refl _) (kF2.out _ hg1.kept hS2.kept)))))
        refine wpQuiet_nil ?_
        rintro w1 ⟨⟨_, hb1⟩, rfl⟩
        go_wp2_with fail
        go_roundw
        case rel => exact ⟨k + 1, hlt, by go_num, after_ hBw hb1, after_ hBr hb1, .inr ⟨j, hj, by omega, rfl, Lib.hid (HY.out)⟩⟩
        case measure => simp [intOf]; omega
    · rcases hcase with ⟨rfl, rfl⟩ | ⟨j, hj, hjk, rfl, HST⟩
      · omega
      · have HTK : Hid ((es.map (·.s)).take k = es.map (·.s)) := Lib.hid (by rw [List.take_of_length_le (by simp; omega)])
        have HF := Lib.hid (HTK.out ▸ HST.out)
        go_wp2_with fail
        go_ret
        exact ⟨⟨j, rfl, hj, HF.out⟩, hBw⟩
end Go.Proofs.YtfcaikahdcpglaaDoor
