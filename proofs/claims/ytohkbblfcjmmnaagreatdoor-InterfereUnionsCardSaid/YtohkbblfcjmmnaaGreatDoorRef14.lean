/- Layer 14: People; the references of layers 10 and 14. -/
import Derived.Test.YtohkbblfcjmmnaaGreatDoorArea
namespace Go.Proofs.YtohkbblfcjmmnaaGreatDoor
open Go Go.RowKit Go.Shelf
set_option maxRecDepth 100000

theorem M.area_in {W H : Int} {G : List Int} {s : St} : ∀ x ∈ M.area W H G s, 0 ≤ x ∧ x < W * H := by
  intro x hx
  unfold M.area M.areaTo at hx
  obtain ⟨i, hi, rfl⟩ := List.mem_map.1 hx
  have := List.mem_range.1 (List.mem_filter.1 hi).1
  omega
theorem M.area_len {W H : Int} {G : List Int} {s : St} : (M.area W H G s).length ≤ (W * H).toNat := M.areaTo_len _ _ _ _

set_option maxHeartbeats 4000000 in
theorem people_ok (W H : Int) (GA PA : Option Addr) (gc pc : Nat) (G P : List Int) (s : St) (A : Option Addr) (c : Nat) (w : World) (ht : Tab w) (hg : Sl 1 icell w w.heap.size GA G) (hp : Sl 1 icell w w.heap.size PA P) (hS : Sl 1 icell w w.heap.size A s.pat) (hok : M.okS W H G P s = true) :
    Calls Tryz.prog 44 #[tv W H GA PA G.length gc P.length pc, stv s A c] w fun e w' => e = .returned (.tuple #[.int .i64 (M.total P (M.area W H G s)), .int .i64 0]) ∧ Below w.heap.size w w' := by
  obtain ⟨V, HW, x0, x1, hB, -⟩ := boxes2 w #[.int .i64 W, .int .i64 H, .slice GA G.length gc, .slice PA P.length pc] 24 (stc s A c) 28
  obtain ⟨-, htv, -, -⟩ := M.okS_iff.1 hok
  obtain ⟨r1, r2, -⟩ := M.tvalid_iff.1 htv
  obtain ⟨wh1, wh2⟩ := M.wh_le r1 r2
  have hal : (M.area W H G s).length ≤ 100000 := Nat.le_trans M.area_len (by omega)
  have HTV := Lib.hid htv
  clear htv r1 r2 wh1 wh2
  obtain ⟨c0, c1, c2, c3⟩ := x0.c4
  obtain ⟨b0, b1, b2, b3, b4, b5, b6, b7⟩ := x1.c8
  have hV := HW.out
  go_enter Tryz.func44, Tryz.ntmps44
  go_wp2_with fail
  clear hV c0 c1 c2 c3 b0 b1 b2 b3 b4 b5 b6 b7
  refine (area_ok W H GA PA gc pc G P s A c V (ht.kept hB) ((hg.below hB).more hB.size) ((hp.below hB).more hB.size) ((hS.below hB).more hB.size) hok).mono ?_
  rintro e w1 ⟨A1, c1, rfl, hS1, hb1⟩
  have B1 := after_ hB hb1
  obtain ⟨c0, c1, c2, c3⟩ := (x0.below hb1).c4
  go_wp2_with fail
  refine (tTotal_ok W H GA PA gc pc G P A1 _ (M.area W H G s) w1 ((hg.below B1).more B1.size) ((hp.below B1).more B1.size) hS1 HTV.out hal M.area_in).mono ?_
  rintro e w2 ⟨rfl, hb2⟩
  go_wp2_with fail
  go_ret2
  exact ⟨rfl, after_ B1 hb2⟩

set_option maxHeartbeats 4000000 in
theorem rAt_ok (W H : Int) (GA PA : Option Addr) (gl gc pl pc : Nat) (i : Nat) (w : World) (hW : 1 ≤ W ∧ W ≤ 64) (hi : (i : Int) ≤ 1000000) :
    Calls Tryz.prog 39 #[tv W H GA PA gl gc pl pc, .int .i64 i] w fun e w' => e = .returned (cv (M.cx W i) (M.cy W i)) ∧ Below w.heap.size w w' := by
  obtain ⟨V, HW, x0, x1, hB, hs⟩ := boxes2 w #[.int .i64 W, .int .i64 H, .slice GA gl gc, .slice PA pl pc] 24 #[.int .i64 0, .int .i64 0] 60
  have e1 : (i : Int).tmod W = M.cx W i := by unfold M.cx; exact Int.tmod_eq_emod_of_nonneg (by omega)
  have hcy : 0 ≤ M.cy W i ∧ M.cy W i ≤ 1000000 := by
    unfold M.cy
    have := Int.ediv_nonneg (a := (i : Int)) (b := W) (by omega) (by omega)
    have := Int.ediv_le_self (a := (i : Int)) W (by omega)
    omega
  have e2 : IntKind.i64.wrap ((i : Int) / W) = M.cy W i := wrap_small (z := M.cy W i) (by omega) (by omega)
  have E1 := Lib.hid e1
  have E2 := Lib.hid e2
  have HS := Lib.hid hs
  clear e1 e2 hs hcy
  obtain ⟨c0, c1, c2, c3⟩ := x0.c4
  clear c1 c2 c3
  have D0 : V.drew.cell? ⟨w.heap.size, 0, none⟩ = some (.int .i64 W) := c0
  have hW0 : W ≠ 0 := by omega
  have hne : w.heap.size ≠ w.heap.size + 1 := by omega
  have D1 : ∀ u v, ((V.drew.setCell ⟨w.heap.size + 1, 0, none⟩ u).setCell ⟨w.heap.size + 1, 1, none⟩ v).cell? ⟨w.heap.size, 0, none⟩ = some (.int .i64 W) := fun u v => ((x0.set_other (p := ⟨w.heap.size + 1, 0, none⟩) hne u).set_other (p := ⟨w.heap.size + 1, 1, none⟩) hne v).c4.1
  have f0 : V.drew.frozen? ⟨w.heap.size + 1, 0, none⟩ = false := x1.frozen 0
  have f1 : V.drew.frozen? ⟨w.heap.size + 1, 1, none⟩ = false := x1.frozen 1
  have f2 := x1.frozen 0
  have f3 := x1.frozen 1
  obtain ⟨g0, g1⟩ := x1.c2
  have G0 : V.drew.cell? ⟨w.heap.size + 1, 0, none⟩ = some (.int .i64 0) := g0
  have G1 : V.drew.cell? ⟨w.heap.size + 1, 1, none⟩ = some (.int .i64 0) := g1
  go_enter Tryz.func39, Tryz.ntmps39
  go_wp2_with fail
  rw [HW.out]
  go_region_held3 (fun w' => w'.cell? ⟨w.heap.size, 0, none⟩ = some (.int .i64 W)) (first | with_reducible exact D0 | with_reducible exact c0 | exact D1 _ _) (fail)
  all_goals
    rw [E1.out, E2.out]
    have z := (x1.set 0 (.int .i64 (M.cx W i))).set 1 (.int .i64 (M.cy W i))
    obtain ⟨z0, z1⟩ := z.c2
    have Z0 : ((V.drew.setCell ⟨w.heap.size + 1, 0, none⟩ (.int .i64 (M.cx W i))).setCell ⟨w.heap.size + 1, 1, none⟩ (.int .i64 (M.cy W i))).cell? ⟨w.heap.size + 1, 0, none⟩ = some (.int .i64 (M.cx W i)) := z0
    have Z1 : ((V.drew.setCell ⟨w.heap.size + 1, 0, none⟩ (.int .i64 (M.cx W i))).setCell ⟨w.heap.size + 1, 1, none⟩ (.int .i64 (M.cy W i))).cell? ⟨w.heap.size + 1, 1, none⟩ = some (.int .i64 (M.cy W i)) := z1
    go_wp2_with fail
    refine bodyPost_ret (v := cv (M.cx W i) (M.cy W i)) ?_ rfl ⟨rfl, ?_⟩
    · simp [results, Tryz.results39, go_sem, z0, z1]
    · exact (hB.drew.setCell (p := ⟨w.heap.size + 1, 0, none⟩) (by dsimp only; omega) _).setCell (p := ⟨w.heap.size + 1, 1, none⟩) (by dsimp only; omega) _


theorem rThr_ok (b : Int) (w : World) (h : b = 1 ∨ b = 2 ∨ b = 3) : Calls Tryz.prog 55 #[.int .i64 b] w fun e w' => e = .returned (.int .i64 (M.thr b)) ∧ Below w.heap.size w w' := by
  obtain ⟨V, HW, x0, hB, -⟩ := boxes1 w #[.int .i64 0, .int .i64 56, .int .i64 72, .int .i64 82] 3
  obtain ⟨c0, c1, c2, c3⟩ := x0.c4
  have hV := HW.out
  rcases h with rfl | rfl | rfl
  all_goals
    go_enter Tryz.func55, Tryz.ntmps55
    go_wp2_with fail
    go_ret
    exact ⟨rfl, hB⟩

set_option maxHeartbeats 4000000 in
theorem rCovers_ok (W H : Int) (GA PA : Option Addr) (gc pc : Nat) (G P : List Int) (s : St) (A : Option Addr) (c : Nat) (cx cy : Int) (w : World) (hg : Sl 1 icell w w.heap.size GA G) (hS : Sl 1 icell w w.heap.size A s.pat)
    (hok : M.okF W H G P s cx cy = true) : Calls Tryz.prog 40 #[tv W H GA PA G.length gc P.length pc, stv s A c, cv cx cy] w fun e w' => e = .returned (.bool (M.cov W G s cx cy)) ∧ Below w.heap.size w w' := by
  obtain ⟨V, HW, x0, x1, x2, hB, -⟩ := boxes3 w #[.int .i64 W, .int .i64 H, .slice GA G.length gc, .slice PA P.length pc] 24 (stc s A c) 28 #[.int .i64 cx, .int .i64 cy] 60
  have hbd := M.band_in (M.okF_valid hok)
  obtain ⟨r, HR⟩ : ∃ r, Hid (M.cov W G s cx cy = r) := ⟨_, Lib.hid rfl⟩
  have HQ : Hid (decide (M.thr s.band ≤ M.field W G s cx cy) = r) := Lib.hid HR.out
  rw [HR.out]
  obtain ⟨c0, c1, c2, c3⟩ := x0.c4
  obtain ⟨b0, b1, b2, b3, b4, b5, b6, b7⟩ := x1.c8
  obtain ⟨d0, d1⟩ := x2.c2
  have l0 := x0.lt
  have l1 := x1.lt
  have l2 := x2.lt
  have hg1 := (hg.below hB).more hB.size
  have hS1 := (hS.below hB).more hB.size
  have kF : Hid (∀ w1, Sl 1 icell w1 w1.heap.size GA G → Sl 1 icell w1 w1.heap.size A s.pat → Calls Tryz.prog 41 #[tv W H GA PA G.length gc P.length pc, stv s A c, cv cx cy] w1 fun e w' => e = .returned (.int .i64 (M.field W G s cx cy)) ∧ Below w1.heap.size w1 w') := Lib.hid (fun w1 h1 h2 => rField_ok W H GA PA gc pc G P s A c cx cy w1 h1 h2 hok)
  go_enter Tryz.func40, Tryz.ntmps40
  go_wp2_with fail
  rw [HW.out]
  refine wp_region_kept V.heap.size V (by kernel_rfl) (by kernel_rfl) (Below.refl _ _) ?_
  repeat (go_big_quiet_step ((first | (go_at_call 41; exact Kept.calls (Nat.le_refl _) (kF.out _ hg1.kept hS1.kept)) | (go_at_call 55; exact Kept.calls (Nat.le_refl _) (rThr_ok s.band _ hbd)))))
  refine wpQuiet_nil ?_
  rintro w1 ⟨⟨_, hb1⟩, rfl⟩
  go_wp2_with fail
  go_ret
  exact ⟨ret_bool HQ.out, after_ hB hb1⟩

set_option maxHeartbeats 8000000 in
theorem rArea_ok (W H : Int) (GA PA : Option Addr) (gc pc : Nat) (G P : List Int) (s : St) (A : Option Addr) (c : Nat) (w : World) (hg : Sl 1 icell w w.heap.size GA G) (hS : Sl 1 icell w w.heap.size A s.pat) (hok : M.okS W H G P s = true) :
    Calls Tryz.prog 21 #[tv W H GA PA G.length gc P.length pc, stv s A c] w (RetS 1 icell w (M.area W H G s)) := by
  obtain ⟨V, HW, x0, x1, hB, -⟩ := boxes2 w #[.int .i64 W, .int .i64 H, .slice GA G.length gc, .slice PA P.length pc] 24 (stc s A c) 28
  obtain ⟨i0, hi, hz0, hz1, hz2⟩ := info_parts intInfo
  have Hi := Lib.hid hi; have Hz0 := Lib.hid hz0; have Hz1 := Lib.hid hz1; have Hz2 := Lib.hid hz2
  clear hi hz0 hz1 hz2
  obtain ⟨-, htv, -, -⟩ := M.okS_iff.1 hok
  obtain ⟨r1, r2, -⟩ := M.tvalid_iff.1 htv
  obtain ⟨wh1, wh2⟩ := M.wh_le r1 r2
  obtain ⟨n, hn⟩ : ∃ n : Nat, W * H = n := ⟨(W * H).toNat, by omega⟩
  have HA : Hid (M.area W H G s = M.areaTo W G s n) := Lib.hid (by unfold M.area; rw [show (W * H).toNat = n by omega])
  have HOK := Lib.hid hok
  clear hok htv
  rw [HA.out]
  go_enter Tryz.func21, Tryz.ntmps21
  go_wp2_with fail
  rw [HW.out]
  go_loopw [5, 6] (fun out i wr => ∃ k : Nat, k ≤ n ∧ i = .int .i64 k ∧ Below w.heap.size w wr ∧ Below V.heap.size V wr ∧ wr.ownsRow V.heap.size 3 1 out (M.areaTo W G s k).length (flat 1 icell (M.areaTo W G s k))) (fun _ i _ => n - (intOf i).toNat)
  case atStart => exact ⟨0, Nat.zero_le _, rfl, hB, Below.refl _ _, own_nil _ _ _ _ _⟩
  case round =>
    obtain ⟨k, hk, rfl, hBw, hBr, hown⟩ := hrel
    have y0 := x0.below hBr
    have y1 := x1.below hBr
    obtain ⟨c0, c1, c2, c3⟩ := y0.c4
    have hmul : W * H = (n : Int) := hn
    by_cases hlt : k < n
    · obtain ⟨hcx, hcy⟩ := M.cell_in (W := W) (H := H) (i := k) (by omega) (by omega)
      have hoF := M.okS_F HOK.out hcx.1 hcx.2 hcy.1 hcy.2
      obtain ⟨b0, b1, b2, b3, b4, b5, b6, b7⟩ := y1.c8
      have l0 := y0.lt
      have l1 := y1.lt
      have hg1 := (hg.below hBw).more hBw.size
      have hS1 := (hS.below hBw).more hBw.size
      have hal := M.areaTo_len W G s k
      have HSC := Lib.hid (M.areaTo_succ W G s k)
      obtain ⟨r, HR⟩ : ∃ r, Hid (M.cov W G s (M.cx W k) (M.cy W k) = r) := ⟨_, Lib.hid rfl⟩
      rw [HR.out] at HSC
      have kC : Hid (∀ w1, Sl 1 icell w1 w1.heap.size GA G → Sl 1 icell w1 w1.heap.size A s.pat → Calls Tryz.prog 40 #[tv W H GA PA G.length gc P.length pc, stv s A c, cv (M.cx W k) (M.cy W k)] w1 fun e w' => e = .returned (.bool r) ∧ Below w1.heap.size w1 w') := Lib.hid (fun w1 h1 h2 => by rw [← HR.out]; exact rCovers_ok W H GA PA gc pc G P s A c _ _ w1 h1 h2 hoF)
      have kA : Hid (∀ w1, Calls Tryz.prog 39 #[tv W H GA PA G.length gc P.length pc, .int .i64 k] w1 fun e w' => e = .returned (cv (M.cx W k) (M.cy W k)) ∧ Below w1.heap.size w1 w') := Lib.hid (fun w1 => rAt_ok W H GA PA G.length gc P.length pc k w1 r1 (by omega))
      clear hoF
      go_wp2_with fail
      refine wp_region_kept wr.heap.size wr (by kernel_rfl) (by kernel_rfl) (Below.refl _ _) ?_
      repeat (go_big_quiet_step ((first | (go_at_call 40; exact Kept.calls (Nat.le_refl _) (kC.out _ hg1.kept hS1.kept)) | (go_at_call 39; exact Kept.calls (Nat.le_refl _) (kA.out _)))))
      refine wpQuiet_nil ?_
      rintro w5 ⟨⟨_, hb5⟩, rfl⟩
      have hown5 := own_below hown hb5
      have B5 := after_ hBr hb5
      have Bw5 := after_ hBw hb5
      clear kC kA
      cases r
      · have HS2 := Lib.hid (HSC.out.trans (by simp : _ = M.areaTo W G s k))
        go_wp2_with fail
        go_roundw
        case rel => exact ⟨k + 1, hlt, by go_num, Bw5, B5, by rw [HS2.out]; exact hown5⟩
        case measure => simp [intOf]; omega
      · have HS2 := Lib.hid (HSC.out.trans (by simp : _ = M.areaTo W G s k ++ [(k : Int)]))
        go_wp2_with (at_builtin; refine wpList_push (w0 := V) (cell := icell) (y := (k : Int)) rfl _ _ _ rfl V.heap.size V.heap.size 3 i0 _ 8 Tryz.underlying22 Hi.out Hz0.out Hz1.out Hz2.out rfl (by decide) _ _ _ rfl hown5 _ _ rfl _ rfl (fun _ => rfl) (by unfold maxLen; omega) (by omega) B5.size (Nat.le_refl _) B5 ?_; intro v' w' hown' hb' _)
        go_roundw
        case rel => exact ⟨k + 1, hlt, by go_num, hB.trans (hb'.mono hB.size), hb', by rw [HS2.out, List.length_append]; exact hown'⟩
        case measure => simp [intOf]; omega
    · obtain rfl : k = n := by omega
      obtain ⟨A9, c9, rfl, hS9⟩ := own_slice (by decide) hown
      go_wp2_with fail
      go_ret
      exact ⟨A9, c9, rfl, hS9, hBw⟩
end Go.Proofs.YtohkbblfcjmmnaaGreatDoor
