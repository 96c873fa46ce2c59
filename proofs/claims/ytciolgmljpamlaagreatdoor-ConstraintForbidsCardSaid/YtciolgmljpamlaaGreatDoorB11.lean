/- A bundle of texts: Line. -/
import Derived.Test.YtciolgmljpamlaaGreatDoorB10
import Derived.Deep.QuietTactic
import Derived.Deep.DeepBigQuietO
/- Layer 10: Line. -/
section
namespace Go.Proofs.YtciolgmljpamlaaGreatDoor
open Go Go.RowKit
set_option maxRecDepth 100000

def ccell (p : Int × Int) (j : Nat) : Value := if j = 0 then .int .i64 p.1 else .int .i64 p.2
theorem c_one (x : Int × Int) (j : Nat) : (ccell x j).oneCell' = true := by unfold ccell; split <;> rfl
theorem cellInfo : (Tryz.prog.info? 113).map (fun i => (i.zero, i.size, i.bytes)) = some (some (.agg #[.int .i64 0, .int .i64 0]), 2, 16) := by kernel_rfl

set_option maxHeartbeats 4000000 in
theorem line_ok (ax ay bx by' : Int) (w : World) (h1 : M.c63 ax) (h2 : M.c63 ay) (h3 : M.c63 bx) (h4 : M.c63 by') :
    Calls Tryz.prog 195 #[cv ax ay, cv bx by'] w (RetL 2 ccell w (M.line ax ay bx by') 0) := by
  have hB0 := (Below.refl w.heap.size w).alloc (Nat.le_refl _) (.cells #[.int .i64 ax, .int .i64 ay] 113)
  have hB1 := hB0.alloc hB0.size (.cells #[.int .i64 bx, .int .i64 by'] 113)
  obtain ⟨i0, hi, hz0, hz1, hz2⟩ := info_parts cellInfo
  have Hi := Lib.hid hi; have Hz0 := Lib.hid hz0; have Hz1 := Lib.hid hz1; have Hz2 := Lib.hid hz2
  clear hi hz0 hz1 hz2
  have i1 := Lib.hid (M.isIn63 h1); have i2 := Lib.hid (M.isIn63 h2); have i3 := Lib.hid (M.isIn63 h3); have i4 := Lib.hid (M.isIn63 h4)
  have hsb := M.span_bd h1 h2 h3 h4
  have k0 := Lib.hid ((Below.heap_alloc (w.alloc (.cells #[.int .i64 ax, .int .i64 ay] 113)) (.cells #[.int .i64 bx, .int .i64 by'] 113) w.heap.size (by simp)).trans (heap_alloc_new w (.cells #[.int .i64 ax, .int .i64 ay] 113)))
  have k1 := Lib.hid (heap_alloc_new (w.alloc (.cells #[.int .i64 ax, .int .i64 ay] 113)) (.cells #[.int .i64 bx, .int .i64 by'] 113))
  have s0 : Hid (((w.alloc (.cells #[.int .i64 ax, .int .i64 ay] 113)).alloc (.cells #[.int .i64 bx, .int .i64 by'] 113)).heap.size = w.heap.size + 2) := Lib.hid (by simp)
  rw [show (w.alloc (.cells #[.int .i64 ax, .int .i64 ay] 113)).heap.size = w.heap.size + 1 by simp] at k1
  go_enter Tryz.func195, Tryz.ntmps195
  go_wp2_with fail
  generalize (w.alloc (.cells #[.int .i64 ax, .int .i64 ay] 113)).alloc (.cells #[.int .i64 bx, .int .i64 by'] 113) = W at *
  go_loopw [7, 14] (fun _ i wr => (i = .int .i64 0 ∨ i = .int .i64 1 ∨ i = .int .i64 2) ∧ Below W.heap.size W wr) (fun _ i _ => 2 - (intOf i).toNat)
  case atStart => exact ⟨.inl rfl, Below.refl _ _⟩
  case round =>
    have j0 : ∀ w, (Instr.index 234 (.agg #[.int .i64 ax, .int .i64 ay, .int .i64 bx, .int .i64 by']) (.int .i64 0)).run Tryz.prog w = .ok (.agg #[.int .i64 ax, .int .i64 ay]) w := fun _ => by kernel_rfl
    have j1 : ∀ w, (Instr.index 234 (.agg #[.int .i64 ax, .int .i64 ay, .int .i64 bx, .int .i64 by']) (.int .i64 1)).run Tryz.prog w = .ok (.agg #[.int .i64 bx, .int .i64 by']) w := fun _ => by kernel_rfl
    obtain ⟨rfl | rfl | rfl, hB⟩ := hrel
    · go_wp2_with fail
      refine (within_any ax 0 63 _).mono ?_
      rintro e w1 ⟨rfl, rfl⟩
      rw [i1.out]
      go_wp2_with fail
      refine (within_any ay 0 63 _).mono ?_
      rintro e w1 ⟨rfl, rfl⟩
      rw [i2.out]
      go_wp2_with fail
      go_roundw
      case rel => exact ⟨.inr (.inl rfl), hB.alloc hB.size _⟩
      case measure => simp [intOf]
    · go_wp2_with fail
      refine (within_any bx 0 63 _).mono ?_
      rintro e w1 ⟨rfl, rfl⟩
      rw [i3.out]
      go_wp2_with fail
      refine (within_any by' 0 63 _).mono ?_
      rintro e w1 ⟨rfl, rfl⟩
      rw [i4.out]
      go_wp2_with fail
      go_roundw
      case rel => exact ⟨.inr (.inr rfl), hB.alloc hB.size _⟩
      case measure => simp [intOf]
    · have kk0 := Lib.hid ((hB.block w.heap.size (by have := s0.out; omega)).trans k0.out)
      have kk1 := Lib.hid ((hB.block (w.heap.size + 1) (by have := s0.out; omega)).trans k1.out)
      have c0 : wr.cell? ⟨w.heap.size, 0, none⟩ = some (.int .i64 ax) := by rw [cell_of_row _ _ _ _ _ _ kk0.out]; rfl
      have c1 : wr.cell? ⟨w.heap.size, 1, none⟩ = some (.int .i64 ay) := by rw [cell_of_row _ _ _ _ _ _ kk0.out]; rfl
      have c2 : wr.cell? ⟨w.heap.size + 1, 0, none⟩ = some (.int .i64 bx) := by rw [cell_of_row _ _ _ _ _ _ kk1.out]; rfl
      have c3 : wr.cell? ⟨w.heap.size + 1, 1, none⟩ = some (.int .i64 by') := by rw [cell_of_row _ _ _ _ _ _ kk1.out]; rfl
      have hb2 : Below w.heap.size w wr := hB1.trans (hB.mono hB1.size)
      have hs2 : w.heap.size + 2 ≤ wr.heap.size := by have := hB.size; have := s0.out; omega
      have l0 : w.heap.size < wr.heap.size := by omega
      have l1 : w.heap.size + 1 < wr.heap.size := by omega
      clear j0 j1 kk0 kk1 k0 k1 hB hB0 hB1 i1 i2 i3 i4 s0
      go_wp2_with fail
      refine wp_region_kept wr.heap.size wr (by kernel_rfl) (by kernel_rfl) (Below.refl _ _) ?_
      repeat (go_big_quiet_step ((first | (go_at_call 210; exact Kept.same (distance_any _ _ _ (by unfold M.c63 at *; omega) (by unfold M.c63 at *; omega))))))
      rw [M.span_if ax ay bx by']
      refine wpQuiet_nil ?_
      rintro V ⟨⟨_, hbV⟩, rfl⟩
      rw [← hbV.cell (p := ⟨w.heap.size, 0, none⟩) l0] at c0
      rw [← hbV.cell (p := ⟨w.heap.size, 1, none⟩) l0] at c1
      rw [← hbV.cell (p := ⟨w.heap.size + 1, 0, none⟩) l1] at c2
      rw [← hbV.cell (p := ⟨w.heap.size + 1, 1, none⟩) l1] at c3
      have hb3 := after_ hb2 hbV
      replace l0 : w.heap.size < V.heap.size := Nat.lt_of_lt_of_le l0 hbV.size
      replace l1 : w.heap.size + 1 < V.heap.size := Nat.lt_of_lt_of_le l1 hbV.size
      clear hb2 hbV hs2
      have HL : Hid ((M.line ax ay bx by').length = (M.span ax ay bx by').toNat - 1) := Lib.hid (M.line_length ax ay bx by')
      have HA : Hid (∀ k (h : k < (M.line ax ay bx by').length), (M.line ax ay bx by')[k] = (M.pt ax bx (M.span ax ay bx by') ((k : Int) + 1), M.pt ay by' (M.span ax ay bx by') ((k : Int) + 1))) := Lib.hid (fun k h => by rw [M.line_at]; unfold M.lineAt; rw [Int.natCast_add]; rfl)
      generalize M.span ax ay bx by' = n at *
      generalize M.line ax ay bx by' = L at *
      go_wp2_with fail
      go_loopw [9, 10] (fun out i wr => ∃ k : Nat, k ≤ L.length ∧ i = .int .i64 ((k : Int) + 1) ∧ Below V.heap.size V wr ∧ wr.ownsRow V.heap.size 113 2 out k (flat 2 ccell (L.take k))) (fun _ i _ => 64 - (intOf i).toNat)
      case atStart => exact ⟨0, Nat.zero_le _, rfl, Below.refl _ _, own_nil _ _ _ _ _⟩
      case round =>
        obtain ⟨k, hk, rfl, hB, hown⟩ := hrel
        have hLl := HL.out
        by_cases hlt : k < L.length
        · have hkn : (k : Int) + 1 < n := by omega
          have d0 := (hB.cell (p := ⟨w.heap.size, 0, none⟩) l0).trans c0
          have d1 := (hB.cell (p := ⟨w.heap.size, 1, none⟩) l0).trans c1
          have d2 := (hB.cell (p := ⟨w.heap.size + 1, 0, none⟩) l1).trans c2
          have d3 := (hB.cell (p := ⟨w.heap.size + 1, 1, none⟩) l1).trans c3
          have m0 : w.heap.size < wr.heap.size := Nat.lt_of_lt_of_le l0 hB.size
          have m1 : w.heap.size + 1 < wr.heap.size := Nat.lt_of_lt_of_le l1 hB.size
          have HTk : Hid (L.take (k + 1) = L.take k ++ [L[k]]) := Lib.hid (List.take_succ_eq_append_getElem hlt)
          have ha := HA.out k hlt
          obtain ⟨y, hy⟩ : ∃ y, L[k] = y := ⟨_, rfl⟩
          rw [hy] at HTk ha
          unfold M.pt at ha
          have hpx := M.prod_bd (k := (k : Int) + 1) (d := bx - ax) (by omega) (by unfold M.c63 at *; omega)
          have hpy := M.prod_bd (k := (k : Int) + 1) (d := by' - ay) (by omega) (by unfold M.c63 at *; omega)
          obtain ⟨dx, hdx⟩ : ∃ d, bx - ax = d := ⟨_, rfl⟩
          obtain ⟨dy, hdy⟩ : ∃ d, by' - ay = d := ⟨_, rfl⟩
          have hdxb : -63 ≤ dx ∧ dx ≤ 63 := by unfold M.c63 at *; omega
          have hdyb : -63 ≤ dy ∧ dy ≤ 63 := by unfold M.c63 at *; omega
          rw [hdx] at hpx ha
          rw [hdy] at hpy ha
          obtain ⟨px, hpx'⟩ : ∃ p, 2 * ((k : Int) + 1) * dx = p := ⟨_, rfl⟩
          obtain ⟨py, hpy'⟩ : ∃ p, 2 * ((k : Int) + 1) * dy = p := ⟨_, rfl⟩
          rw [hpx'] at hpx ha
          rw [hpy'] at hpy ha
          have hqx := M.floor_bd (a := px + n) (b := 2 * n) (c := 8001) (by omega) (by omega)
          have hqy := M.floor_bd (a := py + n) (b := 2 * n) (c := 8001) (by omega) (by omega)
          have hax : 0 ≤ ax ∧ ax ≤ 63 := h1
          have hay : 0 ≤ ay ∧ ay ≤ 63 := h2
          have hbx : 0 ≤ bx ∧ bx ≤ 63 := h3
          have hby : 0 ≤ by' ∧ by' ≤ 63 := h4
          have HY := Lib.hid ha
          clear ha hy
          go_wp2_with fail
          refine wp_region_kept_tail1 34 wr.heap.size wr _ (by kernel_rfl) rfl rfl (by kernel_rfl) (by kernel_rfl) (by kernel_rfl) (fun _ _ _ _ h => h) (Below.refl _ _) ?_
          simp only [List.take_succ_cons, List.take_zero, List.drop_succ_cons, List.drop_zero]
          repeat (go_big_quiet_step ((go_at_call 211; exact Kept.same (divide_any _ _ _ (by omega) (by omega)))))
          refine wpQuiet_nil ?_
          rintro w2 ⟨⟨_, hb2⟩, rfl⟩
          have hown2 := own_below hown hb2
          have hB2 := after_ hB hb2
          have e := HY.out
          clear d0 d1 d2 d3 HY hown hpx' hpy' hdx hdy
          subst e
          go_wp2_with (at_builtin; refine wpList_push (w0 := V) (cell := ccell) (y := (ax + (px + n) / (2 * n), ay + (py + n) / (2 * n))) rfl _ _ _ rfl V.heap.size V.heap.size 113 i0 _ 16 Tryz.underlying200 Hi.out Hz0.out Hz1.out Hz2.out rfl (by decide) _ k _ rfl hown2 _ _ rfl _ rfl (c_one _) (by unfold maxLen; omega) (by omega) hB2.size (Nat.le_refl _) hB2 ?_; intro v' w' hown' hb' hg')
          go_roundw
          case rel => exact ⟨k + 1, by omega, by go_num, hb', by rw [HTk.out]; exact hown'⟩
          case measure => simp [intOf]; omega
        · have hkl : k = L.length := by omega
          have HK : Hid (L.take k = L) := Lib.hid (by rw [hkl, List.take_length])
          have hnk : n ≤ (k : Int) + 1 := by omega
          clear hkl hLl
          rw [HK.out] at hown
          go_wp2_with fail
          go_ret2
          exact RetL.of (by decide) hown (hb3.trans (hB.mono hb3.size))
end Go.Proofs.YtciolgmljpamlaaGreatDoor
end
