/- A bundle of texts: Line, Prof, Ref10. -/
import Derived.Test.YtciolgmljpamlaaGreatDoorC10
import Derived.Deep.QuietTactic
import Derived.Deep.DeepBigQuietO
import Derived.Test.YtciolgmljpamlaaGreatDoorC01
section
namespace Go.Proofs.YtciolgmljpamlaaGreatDoor
open Go Go.RowKit
set_option maxRecDepth 100000
def ccell (p : Int × Int) (j : Nat) : Value := if j = 0 then .int .i64 p.1 else .int .i64 p.2
theorem c_one (x : Int × Int) (j : Nat) : (ccell x j).oneCell' = true := by unfold ccell; split <;> rfl
theorem cellInfo : (Tryz.prog.info? 113).map (fun i => (i.zero, i.size, i.bytes)) = some (some (.agg #[.int .i64 0, .int .i64 0]), 2, 16) := by kernel_rfl
set_option maxHeartbeats 4000000 in
theorem line_ok (ax ay bx by' : Int) (w : World) (h1 : M.c63 ax) (h2 : M.c63 ay) (h3 : M.c63 bx) (h4 : M.c63 by') :
    Calls Tryz.prog 195 #[cv ax ay, cv bx by'] w (RetL 2 ccell w (M.line ax ay bx by') 0) := by
  have hB0 := (Below.refl w.heap.size w).alloc (Nat.le_refl _) (.cells #[.int .i64 ax, .int .i64 ay] 113)
  have hB1 := hB0.alloc hB0.size (.cells #[.int .i64 bx, .int .i64 by'] 113)
  obtain ⟨i0, hi, hz0, hz1, hz2⟩ := info_parts cellInfo
  have Hi := Lib.hid hi; have Hz0 := Lib.hid hz0; have Hz1 := Lib.hid hz1; have Hz2 := Lib.hid hz2
  clear hi hz0 hz1 hz2
  have i1 := Lib.hid (M.isIn63 h1); have i2 := Lib.hid (M.isIn63 h2); have i3 := Lib.hid (M.isIn63 h3); have i4 := Lib.hid (M.isIn63 h4)
  have hsb := M.span_bd h1 h2 h3 h4
  have k0 := Lib.hid ((Below.heap_alloc (w.alloc (.cells #[.int .i64 ax, .int .i64 ay] 113)) (.cells #[.int .i64 bx, .int .i64 by'] 113) w.heap.size (by simp)).trans (heap_alloc_new w (.cells #[.int .i64 ax, .int .i64 ay] 113)))
  have k1 := Lib.hid (heap_alloc_new (w.alloc (.cells #[.int .i64 ax, .int .i64 ay] 113)) (.cells #[.int .i64 bx, .int .i64 by'] 113))
  have s0 : Hid (((w.alloc (.cells #[.int .i64 ax, .int .i64 ay] 113)).alloc (.cells #[.int .i64 bx, .int .i64 by'] 113)).heap.size = w.heap.size + 2) := Lib.hid (by simp)
  rw [show (w.alloc (.cells #[.int .i64 ax, .int .i64 ay] 113)).heap.size = w.heap.size + 1 by simp] at k1
  go_enter Tryz.func195, Tryz.ntmps195
  go_wp2_with fail
  generalize (w.alloc (.cells #[.int .i64 ax, .int .i64 ay] 113)).alloc (.cells #[.int .i64 bx, .int .i64 by'] 113) = W at *
  go_loopw [7, 14] (fun _ i wr => (i = .int .i64 0 ∨ i = .int .i64 1 ∨ i = .int .i64 2) ∧ Below W.heap.size W wr) (fun _ i _ => 2 - (intOf i).toNat)
  case atStart => exact ⟨.inl rfl, Below.refl _ _⟩
  case round =>
    have j0 : ∀ w, (Instr.index 234 (.agg #[.int .i64 ax, .int .i64 ay, .int .i64 bx, .int .i64 by']) (.int .i64 0)).run Tryz.prog w = .ok (.agg #[.int .i64 ax, .int .i64 ay]) w := fun _ => by kernel_rfl
    have j1 : ∀ w, (Instr.index 234 (.agg #[.int .i64 ax, .int .i64 ay, .int .i64 bx, .int .i64 by']) (.int .i64 1)).run Tryz.prog w = .ok (.agg #[.int .i64 bx, .int .i64 by']) w := fun _ => by kernel_rfl
    obtain ⟨rfl | rfl | rfl, hB⟩ := hrel
    · go_wp2_with fail
      refine (within_any ax 0 63 _).mono ?_
      rintro e w1 ⟨rfl, rfl⟩
      rw [i1.out]
      go_wp2_with fail
      refine (within_any ay 0 63 _).mono ?_
      rintro e w1 ⟨rfl, rfl⟩
      rw [i2.out]
      go_wp2_with fail
      go_roundw
      case rel => exact ⟨.inr (.inl rfl), hB.alloc hB.size _⟩
      case measure => simp [intOf]
    · go_wp2_with fail
      refine (within_any bx 0 63 _).mono ?_
      rintro e w1 ⟨rfl, rfl⟩
      rw [i3.out]
      go_wp2_with fail
      refine (within_any by' 0 63 _).mono ?_
      rintro e w1 ⟨rfl, rfl⟩
      rw [i4.out]
      go_wp2_with fail
      go_roundw
      case rel => exact ⟨.inr (.inr rfl), hB.alloc hB.size _⟩
      case measure => simp [intOf]
    · have kk0 := Lib.hid ((hB.block w.heap.size (by have := s0.out; omega)).trans k0.out)
      have kk1 := Lib.hid ((hB.block (w.heap.size + 1) (by have := s0.out; omega)).trans k1.out)
      have c0 : wr.cell? ⟨w.heap.size, 0, none⟩ = some (.int .i64 ax) := by rw [cell_of_row _ _ _ _ _ _ kk0.out]; rfl
      have c1 : wr.cell? ⟨w.heap.size, 1, none⟩ = some (.int .i64 ay) := by rw [cell_of_row _ _ _ _ _ _ kk0.out]; rfl
      have c2 : wr.cell? ⟨w.heap.size + 1, 0, none⟩ = some (.int .i64 bx) := by rw [cell_of_row _ _ _ _ _ _ kk1.out]; rfl
      have c3 : wr.cell? ⟨w.heap.size + 1, 1, none⟩ = some (.int .i64 by') := by rw [cell_of_row _ _ _ _ _ _ kk1.out]; rfl
      have hb2 : Below w.heap.size w wr := hB1.trans (hB.mono hB1.size)
      have hs2 : w.heap.size + 2 ≤ wr.heap.size := by have := hB.size; have := s0.out; omega
      have l0 : w.heap.size < wr.heap.size := by omega
      have l1 : w.heap.size + 1 < wr.heap.size := by omega
      clear j0 j1 kk0 kk1 k0 k1 hB hB0 hB1 i1 i2 i3 i4 s0
      go_wp2_with fail
      refine wp_region_kept wr.heap.size wr (by kernel_rfl) (by kernel_rfl) (Below.refl _ _) ?_
      repeat (go_big_quiet_step ((first | (go_at_call 210; exact Kept.same (distance_any _ _ _ (by unfold M.c63 at *; omega) (by unfold M.c63 at *; omega))))))
      rw [M.span_if ax ay bx by']
      refine wpQuiet_nil ?_
      rintro V ⟨⟨_, hbV⟩, rfl⟩
      rw [← hbV.cell (p := ⟨w.heap.size, 0, none⟩) l0] at c0
      rw [← hbV.cell (p := ⟨w.heap.size, 1, none⟩) l0] at c1
      rw [← hbV.cell (p := ⟨w.heap.size + 1, 0, none⟩) l1] at c2
      rw [← hbV.cell (p := ⟨w.heap.size + 1, 1, none⟩) l1] at c3
      have hb3 := after_ hb2 hbV
      replace l0 : w.heap.size < V.heap.size := Nat.lt_of_lt_of_le l0 hbV.size
      replace l1 : w.heap.size + 1 < V.heap.size := Nat.lt_of_lt_of_le l1 hbV.size
      clear hb2 hbV hs2
      have HL : Hid ((M.line ax ay bx by').length = (M.span ax ay bx by').toNat - 1) := Lib.hid (M.line_length ax ay bx by')
      have HA : Hid (∀ k (h : k < (M.line ax ay bx by').length), (M.line ax ay bx by')[k] = (M.pt ax bx (M.span ax ay bx by') ((k : Int) + 1), M.pt ay by' (M.span ax ay bx by') ((k : Int) + 1))) := Lib.hid (fun k h => by rw [M.line_at]; unfold M.lineAt; rw [Int.natCast_add]; rfl)
      generalize M.span ax ay bx by' = n at *
      generalize M.line ax ay bx by' = L at *
      go_wp2_with fail
      go_loopw [9, 10] (fun out i wr => ∃ k : Nat, k ≤ L.length ∧ i = .int .i64 ((k : Int) + 1) ∧ Below V.heap.size V wr ∧ wr.ownsRow V.heap.size 113 2 out k (flat 2 ccell (L.take k))) (fun _ i _ => 64 - (intOf i).toNat)
      case atStart => exact ⟨0, Nat.zero_le _, rfl, Below.refl _ _, own_nil _ _ _ _ _⟩
      case round =>
        obtain ⟨k, hk, rfl, hB, hown⟩ := hrel
        have hLl := HL.out
        by_cases hlt : k < L.length
        · have hkn : (k : Int) + 1 < n := by omega
          have d0 := (hB.cell (p := ⟨w.heap.size, 0, none⟩) l0).trans c0
          have d1 := (hB.cell (p := ⟨w.heap.size, 1, none⟩) l0).trans c1
          have d2 := (hB.cell (p := ⟨w.heap.size + 1, 0, none⟩) l1).trans c2
          have d3 := (hB.cell (p := ⟨w.heap.size + 1, 1, none⟩) l1).trans c3
          have m0 : w.heap.size < wr.heap.size := Nat.lt_of_lt_of_le l0 hB.size
          have m1 : w.heap.size + 1 < wr.heap.size := Nat.lt_of_lt_of_le l1 hB.size
          have HTk : Hid (L.take (k + 1) = L.take k ++ [L[k]]) := Lib.hid (List.take_succ_eq_append_getElem hlt)
          have ha := HA.out k hlt
          obtain ⟨y, hy⟩ : ∃ y, L[k] = y := ⟨_, rfl⟩
          rw [hy] at HTk ha
          unfold M.pt at ha
          have hpx := M.prod_bd (k := (k : Int) + 1) (d := bx - ax) (by omega) (by unfold M.c63 at *; omega)
          have hpy := M.prod_bd (k := (k : Int) + 1) (d := by' - ay) (by omega) (by unfold M.c63 at *; omega)
          obtain ⟨dx, hdx⟩ : ∃ d, bx - ax = d := ⟨_, rfl⟩
          obtain ⟨dy, hdy⟩ : ∃ d, by' - ay = d := ⟨_, rfl⟩
          have hdxb : -63 ≤ dx ∧ dx ≤ 63 := by unfold M.c63 at *; omega
          have hdyb : -63 ≤ dy ∧ dy ≤ 63 := by unfold M.c63 at *; omega
          rw [hdx] at hpx ha
          rw [hdy] at hpy ha
          obtain ⟨px, hpx'⟩ : ∃ p, 2 * ((k : Int) + 1) * dx = p := ⟨_, rfl⟩
          obtain ⟨py, hpy'⟩ : ∃ p, 2 * ((k : Int) + 1) * dy = p := ⟨_, rfl⟩
          rw [hpx'] at hpx ha
          rw [hpy'] at hpy ha
          have hqx := M.floor_bd (a := px + n) (b := 2 * n) (c := 8001) (by omega) (by omega)
          have hqy := M.floor_bd (a := py + n) (b := 2 * n) (c := 8001) (by omega) (by omega)
          have hax : 0 ≤ ax ∧ ax ≤ 63 := h1
          have hay : 0 ≤ ay ∧ ay ≤ 63 := h2
          have hbx : 0 ≤ bx ∧ bx ≤ 63 := h3
          have hby : 0 ≤ by' ∧ by' ≤ 63 := h4
          have HY := Lib.hid ha
          clear ha hy
          go_wp2_with fail
          refine wp_region_kept_tail1 34 wr.heap.size wr _ (by kernel_rfl) rfl rfl (by kernel_rfl) (by kernel_rfl) (by kernel_rfl) (fun _ _ _ _ h => h) (Below.refl _ _) ?_
          simp only [List.take_succ_cons, List.take_zero, List.drop_succ_cons, List.drop_zero]
          repeat (go_big_quiet_step ((go_at_call 211; exact Kept.same (divide_any _ _ _ (by omega) (by omega)))))
          refine wpQuiet_nil ?_
          rintro w2 ⟨⟨_, hb2⟩, rfl⟩
          have hown2 := own_below hown hb2
          have hB2 := after_ hB hb2
          have e := HY.out
          clear d0 d1 d2 d3 HY hown hpx' hpy' hdx hdy
          subst e
          go_wp2_with (at_builtin; refine wpList_push (w0 := V) (cell := ccell) (y := (ax + (px + n) / (2 * n), ay + (py + n) / (2 * n))) rfl _ _ _ rfl V.heap.size V.heap.size 113 i0 _ 16 Tryz.underlying200 Hi.out Hz0.out Hz1.out Hz2.out rfl (by decide) _ k _ rfl hown2 _ _ rfl _ rfl (c_one _) (by unfold maxLen; omega) (by omega) hB2.size (Nat.le_refl _) hB2 ?_; intro v' w' hown' hb' hg')
          go_roundw
          case rel => exact ⟨k + 1, by omega, by go_num, hb', by rw [HTk.out]; exact hown'⟩
          case measure => simp [intOf]; omega
        · have hkl : k = L.length := by omega
          have HK : Hid (L.take k = L) := Lib.hid (by rw [hkl, List.take_length])
          have hnk : n ≤ (k : Int) + 1 := by omega
          clear hkl hLl
          rw [HK.out] at hown
          go_wp2_with fail
          go_ret2
          exact RetL.of (by decide) hown (hb3.trans (hB.mono hb3.size))
end Go.Proofs.YtciolgmljpamlaaGreatDoor
end

section
namespace Go.Proofs.YtciolgmljpamlaaGreatDoor
open Go Go.RowKit
set_option maxRecDepth 100000
theorem i_one (x : Int) (j : Nat) : (icell x j).oneCell' = true := rfl
theorem intInfo : (Tryz.prog.info? 3).map (fun i => (i.zero, i.size, i.bytes)) = some (some (.int .i64 0), 1, 8) := by kernel_rfl
theorem M.gnd_at {W : Int} {G : List Int} {x y : Int} {j : Nat} (hj : y * W + x = (j : Int)) (h : j < G.length) : G[j] = M.gnd W G (x, y) := by
  unfold M.gnd
  simp only [hj, Int.toNat_natCast]
  simp [h]
theorem place_at (W H : Int) (GA PA : Option Addr) (gl gc pl pc : Nat) (x y : Int) (j : Nat) (w : World) (hW : 1 ≤ W ∧ W ≤ 64) (hH : 1 ≤ H ∧ H ≤ 64) (hx : 0 ≤ x ∧ x < W) (hy : 0 ≤ y ∧ y < H) (hj : Hid (y * W + x = (j : Int))) :
    Calls Tryz.prog 209 #[tv W H GA PA gl gc pl pc, cv x y] w fun e w' => e = .returned (.int .i64 (j : Int)) ∧ Below w.heap.size w w' := by
  rw [← hj.out]; exact place_any W H GA PA gl gc pl pc x y w hW hH hx hy
theorem M.place_nat {W H x y : Int} {G : List Int} (hW : 1 ≤ W ∧ W ≤ 64) (hH : 1 ≤ H ∧ H ≤ 64) (hl : (G.length : Int) = W * H) (hx : 0 ≤ x ∧ x < W) (hy : 0 ≤ y ∧ y < H) : ∃ j : Nat, Hid (y * W + x = (j : Int)) ∧ j < G.length := by
  have := M.place_bd hW hH hx hy
  exact ⟨(y * W + x).toNat, Lib.hid (by omega), by omega⟩
theorem Sl.ints {w : World} {B : Nat} {A : Option Addr} {xs : List Int} (h : Sl 1 icell w B A xs) (h0 : 0 < xs.length) : ∃ ad, A = some ad ∧ ad.block < B ∧ ∀ j (hj : j < xs.length), w.cell? (ad.add j) = some (.int .i64 xs[j]) := by
  obtain ⟨ad, e, hb, _⟩ := h.int_at h0
  refine ⟨ad, e, hb, fun j hj => ?_⟩
  obtain ⟨ad', e', _, hc⟩ := h.int_at hj
  rw [e] at e'
  obtain rfl := Option.some.inj e'
  exact hc
set_option maxHeartbeats 4000000 in
theorem profile_no (W H : Int) (GA PA : Option Addr) (gc pc : Nat) (G P : List Int) (ax ay bx by' : Int) (w : World) (hg : Sl 1 icell w w.heap.size GA G) (hp : Sl 1 icell w w.heap.size PA P) (hgl : G.length ≤ 9223372036854775807) (hpl : P.length ≤ 9223372036854775807)
    (hno : (M.tvalid W H G P && M.inside W H ax ay && M.inside W H bx by') = false) : Calls Tryz.prog 194 #[tv W H GA PA G.length gc P.length pc, cv ax ay, cv bx by'] w (RetL 1 icell w ([] : List Int) 2) := by
  obtain ⟨V, HW, x0, x1, x2, hB, hs⟩ := boxes3 w #[.int .i64 W, .int .i64 H, .slice GA G.length gc, .slice PA P.length pc] 24 #[.int .i64 ax, .int .i64 ay] 113 #[.int .i64 bx, .int .i64 by'] 113
  have hg1 := (hg.below hB).more hB.size
  have hp1 := (hp.below hB).more hB.size
  have HN := Lib.hid hno
  clear hno hs
  go_enter Tryz.func194, Tryz.ntmps194
  go_wp2_with fail
  rw [HW.out]
  refine (tvalid_any W H GA PA gc pc G P V hg1 hp1 hgl hpl).mono ?_
  rintro e w1 ⟨rfl, hb1⟩
  have B1 := after_ hB hb1
  cases hv : M.tvalid W H G P with
  | false =>
    go_wp2_with fail
    go_ret2
    exact RetL.none B1
  | true =>
    obtain ⟨t1, t2, _⟩ := M.tvalid_iff.1 hv
    have x01 := x0.below hb1
    have x11 := x1.below hb1
    have x21 := x2.below hb1
    obtain ⟨c0, c1, c2, c3⟩ := x01.c4
    obtain ⟨d0, d1⟩ := x11.c2
    go_wp2_with fail
    refine (inside_any W H GA PA G.length gc P.length pc ax ay w1 t1 t2).mono ?_
    rintro e w2 ⟨rfl, hb2⟩
    have B2 := after_ B1 hb2
    cases hia : M.inside W H ax ay with
    | false =>
      go_wp2_with fail
      go_ret2
      exact RetL.none B2
    | true =>
      have hib : M.inside W H bx by' = false := by have := HN.out; rw [hv, hia] at this; simpa using this
      clear c0 c1 c2 c3 d0 d1
      obtain ⟨c0, c1, c2, c3⟩ := (x01.below hb2).c4
      obtain ⟨d0, d1⟩ := (x21.below hb2).c2
      go_wp2_with fail
      refine (inside_any W H GA PA G.length gc P.length pc bx by' w2 t1 t2).mono ?_
      rintro e w3 ⟨rfl, hb3⟩
      rw [hib]
      go_wp2_with fail
      go_ret2
      exact RetL.none (after_ B2 hb3)
set_option maxHeartbeats 8000000 in
theorem profile_ok (W H : Int) (GA PA : Option Addr) (gc pc : Nat) (G P : List Int) (ax ay bx by' : Int) (w : World) (hg : Sl 1 icell w w.heap.size GA G) (hp : Sl 1 icell w w.heap.size PA P) 
    (hv : M.tvalid W H G P = true) (hia : M.inside W H ax ay = true) (hib : M.inside W H bx by' = true) : Calls Tryz.prog 194 #[tv W H GA PA G.length gc P.length pc, cv ax ay, cv bx by'] w (RetL 1 icell w (M.prof W G ax ay bx by') 0) := by
  obtain ⟨V, HW, x0, x1, x2, hB, hs⟩ := boxes3 w #[.int .i64 W, .int .i64 H, .slice GA G.length gc, .slice PA P.length pc] 24 #[.int .i64 ax, .int .i64 ay] 113 #[.int .i64 bx, .int .i64 by'] 113
  obtain ⟨t1, t2, t3, t4, t5, t6⟩ := M.tvalid_iff.1 hv
  obtain ⟨a1, a2⟩ := M.inside_iff.1 hia
  obtain ⟨b1, b2⟩ := M.inside_iff.1 hib
  have hg1 := (hg.below hB).more hB.size
  have hp1 := (hp.below hB).more hB.size
  have hwh : W * H ≤ 4096 := by have := Int.mul_le_mul t1.2 t2.2 (by omega) (by omega); omega
  have hgl : G.length ≤ 4096 := by omega
  have hpl : P.length ≤ 4096 := by omega
  obtain ⟨ja, Hja, hja⟩ := M.place_nat t1 t2 t3 a1 a2
  obtain ⟨jb, Hjb, hjb⟩ := M.place_nat t1 t2 t3 b1 b2
  obtain ⟨ad, rfl, hbl, hcg⟩ := hg.ints (by omega)
  have HC := Lib.hid hcg
  have T3 := Lib.hid t3
  clear hcg t3 t4 t5 t6 hs hwh
  obtain ⟨i0, hi, hz0, hz1, hz2⟩ := info_parts intInfo
  have Hi := Lib.hid hi; have Hz0 := Lib.hid hz0; have Hz1 := Lib.hid hz1; have Hz2 := Lib.hid hz2
  clear hi hz0 hz1 hz2
  go_enter Tryz.func194, Tryz.ntmps194
  go_wp2_with fail
  rw [HW.out]
  refine (tvalid_any W H _ PA gc pc G P V hg1 hp1 (by omega) (by omega)).mono ?_
  rintro e w1 ⟨rfl, hb1⟩
  rw [hv]
  have B1 := after_ hB hb1
  have x01 := x0.below hb1
  have x11 := x1.below hb1
  have x21 := x2.below hb1
  obtain ⟨c0, c1, c2, c3⟩ := x01.c4
  obtain ⟨d0, d1⟩ := x11.c2
  clear x0 x1 x2 hb1 hB hg1 hp1
  go_wp2_with fail
  refine (inside_any W H _ PA G.length gc P.length pc ax ay w1 t1 t2).mono ?_
  rintro e w2 ⟨rfl, hb2⟩
  rw [hia]
  have B2 := after_ B1 hb2
  have x02 := x01.below hb2
  have x12 := x11.below hb2
  have x22 := x21.below hb2
  clear c0 c1 c2 c3 d0 d1 x01 x11 x21 B1 hb2
  obtain ⟨c0, c1, c2, c3⟩ := x02.c4
  obtain ⟨d0, d1⟩ := x22.c2
  go_wp2_with fail
  refine (inside_any W H _ PA G.length gc P.length pc bx by' w2 t1 t2).mono ?_
  rintro e w3 ⟨rfl, hb3⟩
  rw [hib]
  have B3 := after_ B2 hb3
  have x03 := x02.below hb3
  have x13 := x12.below hb3
  have x23 := x22.below hb3
  clear c0 c1 c2 c3 d0 d1 x02 x12 x22 B2 hb3
  obtain ⟨c0, c1⟩ := x13.c2
  obtain ⟨d0, d1⟩ := x23.c2
  go_wp2_with fail
  refine (line_ok ax ay bx by' w3 ⟨a1.1, by omega⟩ ⟨a2.1, by omega⟩ ⟨b1.1, by omega⟩ ⟨b2.1, by omega⟩).mono ?_
  rintro e w4 ⟨LA, lc, rfl, hSL, hb4⟩
  have B4 := after_ B3 hb4
  have x04 := x03.below hb4
  have x14 := x13.below hb4
  have x24 := x23.below hb4
  clear c0 c1 d0 d1 x03 x13 x23 B3 hb4
  have hLl : (M.line ax ay bx by').length ≤ 62 := by
    rw [M.line_length]
    have := M.span_bd (ax := ax) (ay := ay) (bx := bx) (by' := by') ⟨a1.1, by omega⟩ ⟨a2.1, by omega⟩ ⟨b1.1, by omega⟩ ⟨b2.1, by omega⟩
    unfold M.lineN; omega
  have HP : Hid (M.prof W G ax ay bx by' = M.gnd W G (ax, ay) :: ((M.line ax ay bx by').map (M.gnd W G) ++ if ax = bx ∧ ay = by' then [] else [M.gnd W G (bx, by')])) := Lib.hid rfl
  have HI : Hid (∀ k (h : k < (M.line ax ay bx by').length), (0 ≤ ((M.line ax ay bx by')[k]).1 ∧ ((M.line ax ay bx by')[k]).1 < W) ∧ (0 ≤ ((M.line ax ay bx by')[k]).2 ∧ ((M.line ax ay bx by')[k]).2 < H)) := Lib.hid (fun k h => by
    rw [M.line_at]; exact M.lineAt_in (by rw [← M.line_length]; exact h) a1 a2 b1 b2)
  generalize M.line ax ay bx by' = L at *
  generalize M.prof W G ax ay bx by' = PR at *
  obtain ⟨ga, hga⟩ : ∃ g, M.gnd W G (ax, ay) = g := ⟨_, rfl⟩
  obtain ⟨gb, hgb⟩ : ∃ g, M.gnd W G (bx, by') = g := ⟨_, rfl⟩
  have Hga := Lib.hid (M.gnd_at Hja.out hja)
  have Hgb := Lib.hid (M.gnd_at Hjb.out hjb)
  rw [hga] at Hga HP
  rw [hgb] at Hgb HP
  clear hga hgb
  go_wp2_with (at_make; refine wpList_make_own _ rfl _ _ 22 rfl w4.heap.size 3 i0 _ 1 Tryz.underlying22 Hi.out Hz0.out Hz1.out .i64 .i64 _ (L.length + 2) rfl rfl (by omega) (by rw [Hz2.out]; omega) (by unfold maxLen; omega) (Nat.le_refl _) ?_; intro w5 hown hg5)
  have hB5 : Below w4.heap.size w4 w5 := (Below.refl _ _).grown hg5 (Nat.le_refl _) (by simp)
  have x05 := x04.below hB5
  have x15 := x14.below hB5
  have x25 := x24.below hB5
  have l0 := x05.lt
  have l1 := x15.lt
  have hgc := (B4.trans (hB5.mono B4.size)).cell (p := ad.add ja) (by rw [add_block]; exact hbl)
  rw [HC.out ja hja, Hga.out] at hgc
  have hbl5 : (ad.add ja).block < w5.heap.size := by rw [add_block]; have := B4.size; have := hB5.size; omega
  obtain ⟨c0, c1, c2, c3⟩ := x05.c4
  obtain ⟨d0, d1⟩ := x15.c2
  have i1 : (0 : Int) ≤ (ja : Int) := by omega
  have i2 : (ja : Int) < (G.length : Int) := by omega
  clear hg5
  go_wp2_with fail
  refine wp_region_kept_tail1 8 w5.heap.size w5 _ (by kernel_rfl) rfl rfl (by kernel_rfl) (by kernel_rfl) (by kernel_rfl) (fun _ _ _ _ h => h) (Below.refl _ _) ?_
  simp only [List.take_succ_cons, List.take_zero, List.drop_succ_cons, List.drop_zero]
  repeat (go_big_quiet_step ((go_at_call 209; exact Kept.calls (Nat.le_refl _) (place_at W H _ PA G.length gc P.length pc ax ay ja _ t1 t2 a1 a2 Hja))))
  refine wpQuiet_nil ?_
  rintro w6 ⟨⟨_, hb6⟩, rfl⟩
  have hB6 := after_ hB5 hb6
  have hown6 := own_below hown hb6
  rw [← flat_nil (size := 1) (cell := icell)] at hown6
  have x06 := x05.below hb6
  have x16 := x15.below hb6
  have x26 := x25.below hb6
  clear c0 c1 c2 c3 d0 d1 x05 x15 x25 hown hgc hbl5 i1 i2 l0 l1
  go_wp2_with (at_builtin; refine wpList_push (w0 := w4) (cell := icell) (y := ga) rfl _ _ _ rfl w4.heap.size w4.heap.size 3 i0 _ 8 Tryz.underlying22 Hi.out Hz0.out Hz1.out Hz2.out rfl (by decide) _ 0 _ rfl hown6 _ _ rfl _ rfl (i_one _) (by unfold maxLen; omega) (by omega) hB6.size (Nat.le_refl _) hB6 ?_; intro v7 w7 hown7 hB7 hg7)
  have n0 : ∀ q, q < w4.heap.size → some q ≠ (Value.slice (some ⟨w4.heap.size, 0, none⟩) 0 (L.length + 2)).ownBlock := fun q hq e => by have := (hown6.lt q e.symm).1; omega
  have x07 := x04.belowB hB7 x04.lt
  have x17 := x14.belowB hB7 x14.lt
  have x27 := x24.belowB hB7 x24.lt
  clear hown6 hg7 n0 x06 x16 x26 hb6 hB6 hB5
  simp only [List.nil_append, Nat.zero_add] at hown7
  go_loopw [10, 53] (fun out i wr => ∃ k : Nat, k ≤ L.length ∧ i = .int .i64 k ∧ Below w4.heap.size w4 wr ∧ wr.ownsRow w4.heap.size 3 1 out (k + 1) (flat 1 icell (ga :: (L.take k).map (M.gnd W G)))) (fun _ i _ => L.length - (intOf i).toNat)
  case atStart => exact ⟨0, Nat.zero_le _, rfl, hB7, hown7⟩
  case round =>
    clear x07 x17 x27 hown7 hB7
    obtain ⟨k, hk, rfl, hBr, hown⟩ := hrel
    have y0 := x04.belowB hBr x04.lt
    have y2 := x24.belowB hBr x24.lt
    have hBw := B4.trans (hBr.mono B4.size)
    by_cases hlt : k < L.length
    · obtain ⟨la, rfl, hlb, e0, he⟩ := (hSL.below hBr).sp (by decide) hlt
      have e1 := he 1 (by decide) (by decide)
      clear he
      obtain ⟨p1, p2⟩ := HI.out k hlt
      have HT : Hid (L.take (k + 1) = L.take k ++ [L[k]]) := Lib.hid (List.take_succ_eq_append_getElem hlt)
      generalize L[k] = p at *
      obtain ⟨px, py⟩ := p
      simp only [ccell] at e0 e1
      simp at e0 e1
      simp only at p1 p2
      obtain ⟨jp, Hjp, hjp⟩ := M.place_nat t1 t2 T3.out p1 p2
      have Hgp := Lib.hid (M.gnd_at Hjp.out hjp)
      obtain ⟨gp, hgp⟩ : ∃ g, M.gnd W G (px, py) = g := ⟨_, rfl⟩
      have HG := Lib.hid hgp
      rw [hgp] at Hgp
      clear hgp
      obtain ⟨U, HU, z2, hBU, -⟩ := boxes1 wr #[.int .i64 px, .int .i64 py] 113
      have z0 := y0.below hBU
      have hBUw := after_ hBw hBU
      have hgc := hBUw.cell (p := ad.add jp) (by rw [add_block]; exact hbl)
      rw [HC.out jp hjp, Hgp.out] at hgc
      have hblU : (ad.add jp).block < U.heap.size := by rw [add_block]; have := hBUw.size; omega
      obtain ⟨c0, c1, c2, c3⟩ := z0.c4
      obtain ⟨d0, d1⟩ := z2.c2
      have l0 := z0.lt
      have l1 := z2.lt
      have i1 : (0 : Int) ≤ (jp : Int) := by omega
      have i2 : (jp : Int) < (G.length : Int) := by omega
      have hownU := own_below hown hBU
      have hBU4 := after_ hBr hBU
      clear hown y0 y2
      go_wp2_with fail
      rw [HU.out]
      refine wp_region_kept_tail1 8 U.heap.size U _ (by kernel_rfl) rfl rfl (by kernel_rfl) (by kernel_rfl) (by kernel_rfl) (fun _ _ _ _ h => h) (Below.refl _ _) ?_
      simp only [List.take_succ_cons, List.take_zero, List.drop_succ_cons, List.drop_zero]
      repeat (go_big_quiet_step ((go_at_call 209; exact Kept.calls (Nat.le_refl _) (place_at W H _ PA G.length gc P.length pc px py jp _ t1 t2 p1 p2 Hjp))))
      refine wpQuiet_nil ?_
      rintro w6 ⟨⟨_, hb6⟩, rfl⟩
      have hB6 := after_ hBU4 hb6
      have hown6 := own_below hownU hb6
      clear c0 c1 c2 c3 d0 d1 hgc hblU i1 i2 l0 l1 hownU z0 z2 e0 e1 hlb
      go_wp2_with (at_builtin; refine wpList_push (w0 := w4) (cell := icell) (y := gp) rfl _ _ _ rfl w4.heap.size w4.heap.size 3 i0 _ 8 Tryz.underlying22 Hi.out Hz0.out Hz1.out Hz2.out rfl (by decide) _ (k + 1) _ rfl hown6 _ _ rfl _ rfl (i_one _) (by unfold maxLen; omega) (by omega) hB6.size (Nat.le_refl _) hB6 ?_; intro v' w' hown' hb' _)
      go_roundw
      case rel => exact ⟨k + 1, hlt, by go_num, hb', by rw [HT.out, List.map_append, List.map_singleton, HG.out]; exact hown'⟩
      case measure => simp [intOf]; omega
    · have hkl : k = L.length := by omega
      have HK : Hid (L.take k = L) := Lib.hid (by rw [hkl, List.take_length])
      clear hkl
      rw [HK.out] at hown
      have y1 := x14.belowB hBr x14.lt
      obtain ⟨c0, c1, c2, c3⟩ := y0.c4
      obtain ⟨d0, d1⟩ := y1.c2
      obtain ⟨f0, f1⟩ := y2.c2
      by_cases hab : ax = bx ∧ ay = by'
      · have HE := Lib.hid hab
        obtain ⟨q1, q2⟩ := hab
        clear q1 q2
        have hq : Hid (PR = ga :: L.map (M.gnd W G)) := Lib.hid (by rw [HP.out, if_pos HE.out, List.append_nil])
        obtain ⟨q1, q2⟩ := HE.out
        subst q1 q2
        go_wp2_with fail
        go_ret2
        rw [hq.out]
        exact RetL.of (by decide) hown hBw
      · have hq : Hid (PR = (ga :: L.map (M.gnd W G)) ++ [gb]) := Lib.hid (by rw [HP.out, if_neg hab]; rfl)
        have hgc := hBw.cell (p := ad.add jb) (by rw [add_block]; exact hbl)
        rw [HC.out jb hjb, Hgb.out] at hgc
        have hblU : (ad.add jb).block < wr.heap.size := by rw [add_block]; have := hBw.size; omega
        have l0 := y0.lt
        have l1 := y2.lt
        have i1 : (0 : Int) ≤ (jb : Int) := by omega
        have i2 : (jb : Int) < (G.length : Int) := by omega
        by_cases hx : ax = bx
        · have hy : ¬ ay = by' := fun h => hab ⟨hx, h⟩
          clear hab
          subst hx
          go_wp2_with fail
          refine wp_region_kept_tail1 8 wr.heap.size wr _ (by kernel_rfl) rfl rfl (by kernel_rfl) (by kernel_rfl) (by kernel_rfl) (fun _ _ _ _ h => h) (Below.refl _ _) ?_
          simp only [List.take_succ_cons, List.take_zero, List.drop_succ_cons, List.drop_zero]
          repeat (go_big_quiet_step ((go_at_call 209; exact Kept.calls (Nat.le_refl _) (place_at W H _ PA G.length gc P.length pc ax by' jb _ t1 t2 b1 b2 Hjb))))
          refine wpQuiet_nil ?_
          rintro w6 ⟨⟨_, hb6⟩, rfl⟩
          have hB6 := after_ hBr hb6
          have hown6 := own_below hown hb6
          clear c0 c1 c2 c3 d0 d1 f0 f1 hgc hblU i1 i2 l0 l1 hown
          go_wp2_with (at_builtin; refine wpList_push (w0 := w4) (cell := icell) (y := gb) rfl _ _ _ rfl w4.heap.size w4.heap.size 3 i0 _ 8 Tryz.underlying22 Hi.out Hz0.out Hz1.out Hz2.out rfl (by decide) _ (k + 1) _ rfl hown6 _ _ rfl _ rfl (i_one _) (by unfold maxLen; omega) (by omega) hB6.size (Nat.le_refl _) hB6 ?_; intro v' w' hown' hb' _)
          go_ret2
          rw [hq.out]
          exact RetL.of (by decide) hown' (B4.trans (hb'.mono B4.size))
        · clear hab
          go_wp2_with fail
          refine wp_region_kept_tail1 8 wr.heap.size wr _ (by kernel_rfl) rfl rfl (by kernel_rfl) (by kernel_rfl) (by kernel_rfl) (fun _ _ _ _ h => h) (Below.refl _ _) ?_
          simp only [List.take_succ_cons, List.take_zero, List.drop_succ_cons, List.drop_zero]
          repeat (go_big_quiet_step ((go_at_call 209; exact Kept.calls (Nat.le_refl _) (place_at W H _ PA G.length gc P.length pc bx by' jb _ t1 t2 b1 b2 Hjb))))
          refine wpQuiet_nil ?_
          rintro w6 ⟨⟨_, hb6⟩, rfl⟩
          have hB6 := after_ hBr hb6
          have hown6 := own_below hown hb6
          clear c0 c1 c2 c3 d0 d1 f0 f1 hgc hblU i1 i2 l0 l1 hown
          go_wp2_with (at_builtin; refine wpList_push (w0 := w4) (cell := icell) (y := gb) rfl _ _ _ rfl w4.heap.size w4.heap.size 3 i0 _ 8 Tryz.underlying22 Hi.out Hz0.out Hz1.out Hz2.out rfl (by decide) _ (k + 1) _ rfl hown6 _ _ rfl _ rfl (i_one _) (by unfold maxLen; omega) (by omega) hB6.size (Nat.le_refl _) hB6 ?_; intro v' w' hown' hb' _)
          go_ret2
          rw [hq.out]
          exact RetL.of (by decide) hown' (B4.trans (hb'.mono B4.size))
end Go.Proofs.YtciolgmljpamlaaGreatDoor
end

section
namespace Go.Proofs.YtciolgmljpamlaaGreatDoor
open Go Go.RowKit
set_option maxRecDepth 100000
set_option maxHeartbeats 1000000 in
theorem rFloor_any (a b : Int) (w : World) (ha : -1000000 ≤ a ∧ a ≤ 1000000) (hb : 1 ≤ b ∧ b ≤ 1000000) :
    Calls Tryz.prog 230 #[.int .i64 a, .int .i64 b] w fun e w' => e = .returned (.int .i64 (a / b)) ∧ w = w' := by
  have hbd := M.floor_bd ha (show 0 < b by omega)
  by_cases h : a.tmod b < 0
  · have h1 := M.floor_neg (show 0 < b by omega) h
    obtain ⟨q, hq⟩ : ∃ q, a.tdiv b = q := ⟨_, rfl⟩
    obtain ⟨r, hr⟩ : ∃ r, a.tmod b = r := ⟨_, rfl⟩
    rw [hq] at h1
    rw [hr] at h
    rw [← h1] at hbd ⊢
    clear h1
    go_enter Tryz.func230, Tryz.ntmps230
    go_wp2_with fail
    go_ret
    exact ⟨rfl, rfl⟩
  · have h1 := M.floor_pos (show 0 < b by omega) (show 0 ≤ a.tmod b by omega)
    obtain ⟨q, hq⟩ : ∃ q, a.tdiv b = q := ⟨_, rfl⟩
    obtain ⟨r, hr⟩ : ∃ r, a.tmod b = r := ⟨_, rfl⟩
    rw [hq] at h1
    rw [hr] at h
    rw [← h1] at hbd ⊢
    clear h1
    go_enter Tryz.func230, Tryz.ntmps230
    go_wp2_with fail
    go_ret
    exact ⟨rfl, rfl⟩
set_option maxHeartbeats 2000000 in
theorem rIndex_at (W H : Int) (GA PA : Option Addr) (gl gc pl pc : Nat) (x y : Int) (j : Nat) (w : World) (hW : 1 ≤ W ∧ W ≤ 64) (hH : 1 ≤ H ∧ H ≤ 64) (hx : 0 ≤ x ∧ x < W) (hy : 0 ≤ y ∧ y < H) (hj : Hid (y * W + x = (j : Int))) :
    Calls Tryz.prog 219 #[tv W H GA PA gl gc pl pc, cv x y] w fun e w' => e = .returned (.int .i64 (j : Int)) ∧ Below w.heap.size w w' := by
  rw [← hj.out]
  have hB0 := (Below.refl w.heap.size w).alloc (Nat.le_refl _) (.cells #[.int .i64 W, .int .i64 H, .slice GA gl gc, .slice PA pl pc] 24)
  have hB1 := hB0.alloc hB0.size (.cells #[.int .i64 x, .int .i64 y] 113)
  obtain ⟨b1, b2, b3⟩ := M.place_bd hW hH hx hy
  clear b3 hj
  generalize hp : y * W = p at *
  go_enter Tryz.func219, Tryz.ntmps219
  go_wp2_with fail
  go_ret
  exact ⟨rfl, hB1⟩
def M.mx (l : List Int) : Int := l.foldl max 0
theorem M.mx_snoc (l : List Int) (y : Int) : M.mx (l ++ [y]) = max (M.mx l) y := by unfold M.mx; rw [List.foldl_append]; rfl
theorem M.mx_span (ax ay bx by' : Int) : M.mx [bx - ax, ax - bx, by' - ay, ay - by'] = M.span ax ay bx by' := by
  unfold M.mx M.span
  simp only [List.foldl_cons, List.foldl_nil]
  omega
set_option maxHeartbeats 4000000 in
theorem rSpan_ok (ax ay bx by' : Int) (w : World) (h1 : M.c63 ax) (h2 : M.c63 ay) (h3 : M.c63 bx) (h4 : M.c63 by') :
    Calls Tryz.prog 229 #[cv ax ay, cv bx by'] w fun e w' => e = .returned (.int .i64 (M.span ax ay bx by')) ∧ Below w.heap.size w w' := by
  obtain ⟨V, HW, x0, x1, x2, hB, -⟩ := boxes3 w #[.int .i64 ax, .int .i64 ay] 113 #[.int .i64 bx, .int .i64 by'] 113 #[.int .i64 (bx - ax), .int .i64 (ax - bx), .int .i64 (by' - ay), .int .i64 (ay - by')] 3
  have hS : Sl 1 icell V V.heap.size (some ⟨w.heap.size + 1 + 1, 0, none⟩) [bx - ax, ax - bx, by' - ay, ay - by'] := Sl.of_box x2 rfl
  have HM := Lib.hid (M.mx_span ax ay bx by')
  have hL4 : Hid ([bx - ax, ax - bx, by' - ay, ay - by'].length = 4) := Lib.hid rfl
  unfold M.c63 at h1 h2 h3 h4
  go_enter Tryz.func229, Tryz.ntmps229
  go_wp2_with fail
  rw [HW.out]
  generalize [bx - ax, ax - bx, by' - ay, ay - by'] = l at *
  go_loop [6, 7] (fun n i => ∃ k : Nat, k ≤ 4 ∧ i = .int .i64 k ∧ n = .int .i64 (M.mx (l.take k))) (fun _ i => 4 - (intOf i).toNat)
  case atStart => exact ⟨0, Nat.zero_le _, rfl, rfl⟩
  case round =>
    obtain ⟨k, hk, rfl, rfl⟩ := hrel
    by_cases hlt : k < 4
    · have hlt' : k < l.length := by rw [hL4.out]; exact hlt
      obtain ⟨ad, ead, hab, da⟩ := hS.int_at hlt'
      obtain rfl := Option.some.inj ead
      rw [add_base] at da
      have HT : Hid (l.take (k + 1) = l.take k ++ [l[k]]) := Lib.hid (List.take_succ_eq_append_getElem hlt')
      generalize l[k] = y at *
      have HX := Lib.hid (M.mx_snoc (l.take k) y)
      clear ead
      generalize M.mx (l.take k) = n at *
      by_cases hc : n < y
      · go_wp2_with fail
        go_round
        case rel => exact ⟨k + 1, hlt, by go_num, by rw [HT.out, HX.out]; congr 1; omega⟩
        case measure => simp [intOf]; omega
      · go_wp2_with fail
        go_round
        case rel => exact ⟨k + 1, hlt, by go_num, by rw [HT.out, HX.out]; congr 1; omega⟩
        case measure => simp [intOf]; omega
    · obtain rfl : k = 4 := by omega
      have HF : Hid (M.mx (l.take 4) = M.span ax ay bx by') := Lib.hid (by rw [List.take_of_length_le (by rw [hL4.out]; exact Nat.le_refl _), HM.out])
      go_wp2_with fail
      go_ret
      exact ⟨ret_int HF.out, hB⟩
set_option maxHeartbeats 4000000 in
theorem rLine_ok (ax ay bx by' : Int) (w : World) (h1 : M.c63 ax) (h2 : M.c63 ay) (h3 : M.c63 bx) (h4 : M.c63 by') :
    Calls Tryz.prog 220 #[cv ax ay, cv bx by'] w (RetS 2 ccell w (M.line ax ay bx by')) := by
  obtain ⟨V0, HW, x0, x1, hB, -⟩ := boxes2 w #[.int .i64 ax, .int .i64 ay] 113 #[.int .i64 bx, .int .i64 by'] 113
  obtain ⟨i0, hi, hz0, hz1, hz2⟩ := info_parts cellInfo
  have Hi := Lib.hid hi; have Hz0 := Lib.hid hz0; have Hz1 := Lib.hid hz1; have Hz2 := Lib.hid hz2
  clear hi hz0 hz1 hz2
  have hsb := M.span_bd h1 h2 h3 h4
  go_enter Tryz.func220, Tryz.ntmps220
  go_wp2_with fail
  rw [HW.out]
  refine (rSpan_ok ax ay bx by' V0 h1 h2 h3 h4).mono ?_
  rintro e V ⟨rfl, hb1⟩
  have BV := after_ hB hb1
  have y0 := x0.below hb1
  have y1 := x1.below hb1
  clear x0 x1 hb1 hB
  have HL : Hid ((M.line ax ay bx by').length = (M.span ax ay bx by').toNat - 1) := Lib.hid (M.line_length ax ay bx by')
  have HA : Hid (∀ k (h : k < (M.line ax ay bx by').length), (M.line ax ay bx by')[k] = (M.pt ax bx (M.span ax ay bx by') ((k : Int) + 1), M.pt ay by' (M.span ax ay bx by') ((k : Int) + 1))) := Lib.hid (fun k h => by rw [M.line_at]; unfold M.lineAt; rw [Int.natCast_add]; rfl)
  generalize M.span ax ay bx by' = n at *
  generalize M.line ax ay bx by' = L at *
  go_wp2_with fail
  go_loopw [5, 7] (fun out i wr => ∃ k : Nat, k ≤ L.length ∧ i = .int .i64 ((k : Int) + 1) ∧ Below V.heap.size V wr ∧ wr.ownsRow V.heap.size 113 2 out k (flat 2 ccell (L.take k))) (fun _ i _ => 64 - (intOf i).toNat)
  case atStart => exact ⟨0, Nat.zero_le _, rfl, Below.refl _ _, own_nil _ _ _ _ _⟩
  case round =>
    obtain ⟨k, hk, rfl, hB, hown⟩ := hrel
    have hLl := HL.out
    by_cases hlt : k < L.length
    · have hkn : (k : Int) + 1 < n := by omega
      obtain ⟨d0, d1⟩ := (y0.below hB).c2
      obtain ⟨d2, d3⟩ := (y1.below hB).c2
      have m0 := (y0.below hB).lt
      have m1 := (y1.below hB).lt
      have HTk : Hid (L.take (k + 1) = L.take k ++ [L[k]]) := Lib.hid (List.take_succ_eq_append_getElem hlt)
      have ha := HA.out k hlt
      obtain ⟨y, hy⟩ : ∃ y, L[k] = y := ⟨_, rfl⟩
      rw [hy] at HTk ha
      unfold M.pt at ha
      have hpx := M.prod_bd (k := (k : Int) + 1) (d := bx - ax) (by omega) (by unfold M.c63 at *; omega)
      have hpy := M.prod_bd (k := (k : Int) + 1) (d := by' - ay) (by omega) (by unfold M.c63 at *; omega)
      obtain ⟨dx, hdx⟩ : ∃ d, bx - ax = d := ⟨_, rfl⟩
      obtain ⟨dy, hdy⟩ : ∃ d, by' - ay = d := ⟨_, rfl⟩
      have hdxb : -63 ≤ dx ∧ dx ≤ 63 := by unfold M.c63 at *; omega
      have hdyb : -63 ≤ dy ∧ dy ≤ 63 := by unfold M.c63 at *; omega
      rw [hdx] at hpx ha
      rw [hdy] at hpy ha
      obtain ⟨px, hpx'⟩ : ∃ p, 2 * ((k : Int) + 1) * dx = p := ⟨_, rfl⟩
      obtain ⟨py, hpy'⟩ : ∃ p, 2 * ((k : Int) + 1) * dy = p := ⟨_, rfl⟩
      rw [hpx'] at hpx ha
      rw [hpy'] at hpy ha
      have hqx := M.floor_bd (a := px + n) (b := 2 * n) (c := 8001) (by omega) (by omega)
      have hqy := M.floor_bd (a := py + n) (b := 2 * n) (c := 8001) (by omega) (by omega)
      have hax : 0 ≤ ax ∧ ax ≤ 63 := h1
      have hay : 0 ≤ ay ∧ ay ≤ 63 := h2
      have hbx : 0 ≤ bx ∧ bx ≤ 63 := h3
      have hby : 0 ≤ by' ∧ by' ≤ 63 := h4
      have HY := Lib.hid ha
      clear ha hy
      go_wp2_with fail
      refine wp_region_kept_tail1 34 wr.heap.size wr _ (by kernel_rfl) rfl rfl (by kernel_rfl) (by kernel_rfl) (by kernel_rfl) (fun _ _ _ _ h => h) (Below.refl _ _) ?_
      simp only [List.take_succ_cons, List.take_zero, List.drop_succ_cons, List.drop_zero]
      repeat (go_big_quiet_step ((go_at_call 230; exact Kept.same (rFloor_any _ _ _ (by omega) (by omega)))))
      refine wpQuiet_nil ?_
      rintro w2 ⟨⟨_, hb2⟩, rfl⟩
      have hown2 := own_below hown hb2
      have hB2 := after_ hB hb2
      have e := HY.out
      clear d0 d1 d2 d3 HY hown hpx' hpy' hdx hdy
      subst e
      go_wp2_with (at_builtin; refine wpList_push (w0 := V) (cell := ccell) (y := (ax + (px + n) / (2 * n), ay + (py + n) / (2 * n))) rfl _ _ _ rfl V.heap.size V.heap.size 113 i0 _ 16 Tryz.underlying200 Hi.out Hz0.out Hz1.out Hz2.out rfl (by decide) _ k _ rfl hown2 _ _ rfl _ rfl (c_one _) (by unfold maxLen; omega) (by omega) hB2.size (Nat.le_refl _) hB2 ?_; intro v' w' hown' hb' hg')
      go_roundw
      case rel => exact ⟨k + 1, by omega, by go_num, hb', by rw [HTk.out]; exact hown'⟩
      case measure => simp [intOf]; omega
    · have hkl : k = L.length := by omega
      have HK : Hid (L.take k = L) := Lib.hid (by rw [hkl, List.take_length])
      have hnk : n ≤ (k : Int) + 1 := by omega
      clear hkl hLl
      rw [HK.out] at hown
      go_wp2_with fail
      go_ret
      obtain ⟨A, c, rfl, hS⟩ := own_slice (by decide) hown
      exact ⟨A, c, rfl, hS, BV.trans (hB.mono BV.size)⟩
theorem M.tvalid_at {W H : Int} {G P : List Int} {k : Nat} (hg : k < G.length) (hp : k < P.length) (h : ¬ ((0 ≤ G[k] ∧ G[k] ≤ 9000) ∧ (0 ≤ P[k] ∧ P[k] ≤ 1000000))) : M.tvalid W H G P = false := by
  cases hv : M.tvalid W H G P with
  | false => rfl
  | true =>
    obtain ⟨_, _, _, _, h5, h6⟩ := M.tvalid_iff.1 hv
    exact absurd ⟨h5 _ (List.getElem_mem hg), h6 _ (List.getElem_mem hp)⟩ h
theorem M.tvalid_all {W H : Int} {G P : List Int} (hW : 1 ≤ W ∧ W ≤ 64) (hH : 1 ≤ H ∧ H ≤ 64) (hg : (G.length : Int) = W * H) (hp : (P.length : Int) = W * H) (h : ∀ k (hg : k < G.length) (hp : k < P.length), ((0 ≤ G[k] ∧ G[k] ≤ 9000) ∧ (0 ≤ P[k] ∧ P[k] ≤ 1000000))) : M.tvalid W H G P = true := by
  refine M.tvalid_iff.2 ⟨hW, hH, hg, hp, fun g hm => ?_, fun g hm => ?_⟩
  · obtain ⟨i, hi, rfl⟩ := List.getElem_of_mem hm
    exact (h i hi (by omega)).1
  · obtain ⟨i, hi, rfl⟩ := List.getElem_of_mem hm
    exact (h i (by omega) hi).2
set_option maxHeartbeats 4000000 in
theorem rValid_any (W H : Int) (GA PA : Option Addr) (gc pc : Nat) (G P : List Int) (w : World) (hg : Sl 1 icell w w.heap.size GA G) (hp : Sl 1 icell w w.heap.size PA P) (hgl : G.length ≤ 9223372036854775807) :
    Calls Tryz.prog 64 #[tv W H GA PA G.length gc P.length pc] w fun e w' => e = .returned (.bool (M.tvalid W H G P)) ∧ Below w.heap.size w w' := by
  obtain ⟨V, HW, x0, hB, -⟩ := boxes1 w #[.int .i64 W, .int .i64 H, .slice GA G.length gc, .slice PA P.length pc] 24
  have hg1 := (hg.below hB).more hB.size
  have hp1 := (hp.below hB).more hB.size
  by_cases hr : (1 ≤ W ∧ W ≤ 64) ∧ (1 ≤ H ∧ H ≤ 64)
  · obtain ⟨a1, a2⟩ := hr
    have hm1 : 1 ≤ W * H := by
      have := Int.mul_le_mul a1.1 a2.1 (by omega) (by omega)
      omega
    have hm2 : W * H ≤ 4096 := by
      have := Int.mul_le_mul a1.2 a2.2 (by omega) (by omega)
      omega
    obtain ⟨n, hn⟩ : ∃ n, W * H = n := ⟨_, rfl⟩
    rw [hn] at hm1 hm2
    have q1 : decide (W < 1) = false := by simp; omega
    have q2 : decide (64 < W) = false := by simp; omega
    have q3 : decide (H < 1) = false := by simp; omega
    have q4 : decide (64 < H) = false := by simp; omega
    by_cases hgn : (G.length : Int) = n
    · by_cases hpn : (P.length : Int) = n
      · have hgl2 : G.length ≤ 4096 := by omega
        have hgp : G.length = P.length := by omega
        have q5 : ((G.length : Int) != n) = false := by simp [hgn]
        have q6 : ((P.length : Int) != n) = false := by simp [hpn]
        have HN := Lib.hid hn
        have HG := Lib.hid hgn
        have HP := Lib.hid hpn
        have HGP := Lib.hid hgp
        clear hgn hpn hgp
        obtain ⟨c0, c1, c2, c3⟩ := x0.c4
        go_enter Tryz.func64, Tryz.ntmps64
        go_wp2_with fail
        rw [HW.out]
        go_loop [4] (fun i => ∃ k : Nat, k ≤ G.length ∧ i = .int .i64 k ∧ Hid (∀ j (hg : j < G.length) (hp : j < P.length), j < k → ((0 ≤ G[j] ∧ G[j] ≤ 9000) ∧ (0 ≤ P[j] ∧ P[j] ≤ 1000000)))) (fun i => G.length - (intOf i).toNat)
        case atStart => exact ⟨0, Nat.zero_le _, rfl, Lib.hid (fun j _ _ h => absurd h (by omega))⟩
        case round =>
          clear q1 q2 q3 q4 q5 q6 hn
          obtain ⟨k, hk, rfl, HK⟩ := hrel
          by_cases hlt : k < G.length
          · have hlt2 : k < P.length := by have := HGP.out; omega
            obtain ⟨ga, rfl, hgb, e0⟩ := hg1.int_at hlt
            obtain ⟨pa, rfl, hpb, e1⟩ := hp1.int_at hlt2
            have hkn : (k : Int) < n := by have := HG.out; omega
            have HA : Hid (¬ ((0 ≤ G[k] ∧ G[k] ≤ 9000) ∧ (0 ≤ P[k] ∧ P[k] ≤ 1000000)) → false = M.tvalid W H G P) := Lib.hid (fun h => (M.tvalid_at hlt hlt2 h).symm)
            have HK2 : Hid ((0 ≤ G[k] ∧ G[k] ≤ 9000) ∧ (0 ≤ P[k] ∧ P[k] ≤ 1000000) → ∀ j (hg : j < G.length) (hp : j < P.length), j < k + 1 → ((0 ≤ G[j] ∧ G[j] ≤ 9000) ∧ (0 ≤ P[j] ∧ P[j] ≤ 1000000))) := Lib.hid (fun h j h1 h2 h3 => by
              by_cases e : j = k
              · subst e; exact h
              · exact HK.out j h1 h2 (by omega))
            generalize G[k] = g at *
            generalize P[k] = p at *
            by_cases b1 : decide (g < 0) = true
            · have b1' : g < 0 := by simpa using b1
              go_wp2_with fail
              go_ret
              exact ⟨ret_bool (HA.out (by omega)), hB⟩
            · have b1' : decide (g < 0) = false := by simpa using b1
              by_cases b2 : decide (9000 < g) = true
              · have b2' : 9000 < g := by simpa using b2
                clear b1
                go_wp2_with fail
                go_ret
                exact ⟨ret_bool (HA.out (by omega)), hB⟩
              · have b2' : decide (9000 < g) = false := by simpa using b2
                by_cases b3 : decide (p < 0) = true
                · have b3' : p < 0 := by simpa using b3
                  clear b1 b2
                  go_wp2_with fail
                  go_ret
                  exact ⟨ret_bool (HA.out (by omega)), hB⟩
                · have b3' : decide (p < 0) = false := by simpa using b3
                  by_cases b4 : decide (1000000 < p) = true
                  · have b4' : 1000000 < p := by simpa using b4
                    clear b1 b2 b3
                    go_wp2_with fail
                    go_ret
                    exact ⟨ret_bool (HA.out (by omega)), hB⟩
                  · have b4' : decide (1000000 < p) = false := by simpa using b4
                    have hok : (0 ≤ g ∧ g ≤ 9000) ∧ (0 ≤ p ∧ p ≤ 1000000) := by simp at b1 b2 b3 b4; omega
                    clear b1 b2 b3 b4
                    go_wp2_with fail
                    go_round
                    case rel => exact ⟨k + 1, hlt, by go_num, Lib.hid (HK2.out hok)⟩
                    case measure => simp [intOf]; omega
          · have hkl : k = G.length := by omega
            have HF : Hid (true = M.tvalid W H G P) := Lib.hid (M.tvalid_all a1 a2 (by rw [HN.out]; exact HG.out) (by rw [HN.out]; exact HP.out) (fun j h1 h2 => HK.out j h1 h2 (by omega))).symm
            have hkn : n ≤ (k : Int) := by have := HG.out; omega
            clear hkl
            go_wp2_with fail
            go_ret
            exact ⟨ret_bool HF.out, hB⟩
      · have HF : Hid (false = M.tvalid W H G P) := Lib.hid (by unfold M.tvalid; rw [hn]; simp [hpn])
        have q5 : ((G.length : Int) != n) = false := by simp [hgn]
        have q6 : ((P.length : Int) != n) = true := by simp [hpn]
        clear hgn hpn
        go_enter Tryz.func64, Tryz.ntmps64
        go_wp2_with fail
        go_ret
        exact ⟨ret_bool HF.out, by rw [HW.out]; exact hB⟩
    · have HF : Hid (false = M.tvalid W H G P) := Lib.hid (by unfold M.tvalid; rw [hn]; simp [hgn])
      have q5 : ((G.length : Int) != n) = true := by simp [hgn]
      clear hgn
      go_enter Tryz.func64, Tryz.ntmps64
      go_wp2_with fail
      go_ret
      exact ⟨ret_bool HF.out, by rw [HW.out]; exact hB⟩
  · have HF : Hid (false = M.tvalid W H G P) := Lib.hid (by
      cases hv : M.tvalid W H G P with
      | false => rfl
      | true => obtain ⟨b1, b2, _⟩ := M.tvalid_iff.1 hv; exact absurd ⟨b1, b2⟩ hr)
    have h' : W < 1 ∨ 64 < W ∨ H < 1 ∨ 64 < H := by omega
    clear hr
    go_enter Tryz.func64, Tryz.ntmps64
    go_wp2_with fail
    all_goals
      first
        | (go_ret
           exact ⟨ret_bool HF.out, by rw [HW.out]; exact hB⟩)
        | (exfalso; omega)
def M.has (W H : Int) (G P : List Int) (x y : Int) : Bool := M.tvalid W H G P && M.inside W H x y
set_option maxHeartbeats 4000000 in
theorem rHas_any (W H : Int) (GA PA : Option Addr) (gc pc : Nat) (G P : List Int) (x y : Int) (w : World) (hg : Sl 1 icell w w.heap.size GA G) (hp : Sl 1 icell w w.heap.size PA P) (hgl : G.length ≤ 9223372036854775807) :
    Calls Tryz.prog 66 #[tv W H GA PA G.length gc P.length pc, cv x y] w fun e w' => e = .returned (.bool (M.has W H G P x y)) ∧ Below w.heap.size w w' := by
  obtain ⟨V, HW, x0, x1, hB, -⟩ := boxes2 w #[.int .i64 W, .int .i64 H, .slice GA G.length gc, .slice PA P.length pc] 24 #[.int .i64 x, .int .i64 y] 113
  have hg1 := (hg.below hB).more hB.size
  have hp1 := (hp.below hB).more hB.size
  obtain ⟨r, hr⟩ : ∃ r, M.has W H G P x y = r := ⟨_, rfl⟩
  have HR := Lib.hid hr
  rw [hr]
  clear hr
  go_enter Tryz.func66, Tryz.ntmps66
  go_wp2_with fail
  rw [HW.out]
  refine (rValid_any W H GA PA gc pc G P V hg1 hp1 hgl).mono ?_
  rintro e w1 ⟨rfl, hb1⟩
  have B1 := after_ hB hb1
  obtain ⟨c0, c1, c2, c3⟩ := (x0.below hb1).c4
  obtain ⟨d0, d1⟩ := (x1.below hb1).c2
  cases hv : M.tvalid W H G P with
  | false =>
    have HF : Hid (false = r) := Lib.hid (by rw [← HR.out]; unfold M.has; rw [hv]; rfl)
    go_wp2_with fail
    go_ret
    exact ⟨ret_bool HF.out, B1⟩
  | true =>
    have HF : Hid (r = true ↔ (0 ≤ x ∧ x < W) ∧ (0 ≤ y ∧ y < H)) := Lib.hid (by rw [← HR.out]; unfold M.has; rw [hv, Bool.true_and]; exact M.inside_iff)
    by_cases b1 : 0 ≤ x
    · by_cases b2 : x < W
      · by_cases b3 : 0 ≤ y
        · have HE : Hid (decide (y < H) = r) := Lib.hid (by rw [Bool.eq_iff_iff, HF.out]; simp; omega)
          have q1 : decide (0 ≤ x) = true := by simp; omega
          have q2 : decide (x < W) = true := by simp; omega
          have q3 : decide (0 ≤ y) = true := by simp; omega
          obtain ⟨q, hq⟩ : ∃ q, decide (y < H) = q := ⟨_, rfl⟩
          rw [hq] at HE
          clear b1 b2 b3
          go_wp2_with fail
          go_ret
          exact ⟨ret_bool HE.out, B1⟩
        · have HE : Hid (false = r) := Lib.hid (by rw [Bool.eq_iff_iff, HF.out]; simp; omega)
          have q1 : decide (0 ≤ x) = true := by simp; omega
          have q2 : decide (x < W) = true := by simp; omega
          have q3 : decide (0 ≤ y) = false := by simp; omega
          clear b1 b2 b3
          go_wp2_with fail
          go_ret
          exact ⟨ret_bool HE.out, B1⟩
      · have HE : Hid (false = r) := Lib.hid (by rw [Bool.eq_iff_iff, HF.out]; simp; omega)
        have q1 : decide (0 ≤ x) = true := by simp; omega
        have q2 : decide (x < W) = false := by simp; omega
        clear b1 b2
        go_wp2_with fail
        go_ret
        exact ⟨ret_bool HE.out, B1⟩
    · have HE : Hid (false = r) := Lib.hid (by rw [Bool.eq_iff_iff, HF.out]; simp; omega)
      have q1 : decide (0 ≤ x) = false := by simp; omega
      clear b1
      go_wp2_with fail
      go_ret
      exact ⟨ret_bool HE.out, B1⟩
end Go.Proofs.YtciolgmljpamlaaGreatDoor
end
