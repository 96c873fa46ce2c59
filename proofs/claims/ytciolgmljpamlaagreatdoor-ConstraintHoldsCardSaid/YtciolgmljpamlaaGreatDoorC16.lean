/- A bundle of texts: Ref11, Ant. -/
import Derived.Test.YtciolgmljpamlaaGreatDoorC11
import Derived.Test.YtciolgmljpamlaaGreatDoorC14
import Derived.Test.YtciolgmljpamlaaGreatDoorC15
import Derived.Test.YtciolgmljpamlaaGreatDoorC09
section
namespace Go.Proofs.YtciolgmljpamlaaGreatDoor
open Go Go.RowKit
set_option maxRecDepth 100000
set_option maxHeartbeats 4000000 in
theorem refSquare_ok (ax ay bx by' : Int) (w : World) (h1 : M.c63 ax) (h2 : M.c63 ay) (h3 : M.c63 bx) (h4 : M.c63 by') :
    Calls Tryz.prog 208 #[cv ax ay, cv bx by'] w fun e w' => e = .returned (.int .i64 (M.sq ax ay bx by')) ∧ Below w.heap.size w w' := by
  obtain ⟨V, HW, x0, x1, hB, -⟩ := boxes2 w #[.int .i64 ax, .int .i64 ay] 113 #[.int .i64 bx, .int .i64 by'] 113
  have hsx := M.sq_half h1 h3
  have hsy := M.sq_half h2 h4
  have HQ : Hid (M.sq ax ay bx by' = (bx - ax) * (bx - ax) + (by' - ay) * (by' - ay)) := Lib.hid rfl
  unfold M.c63 at h1 h2 h3 h4
  obtain ⟨dx, hdx⟩ : ∃ d, bx - ax = d := ⟨_, rfl⟩
  obtain ⟨dy, hdy⟩ : ∃ d, by' - ay = d := ⟨_, rfl⟩
  rw [hdx] at hsx HQ
  rw [hdy] at hsy HQ
  obtain ⟨qx, hqx⟩ : ∃ d, dx * dx = d := ⟨_, rfl⟩
  obtain ⟨qy, hqy⟩ : ∃ d, dy * dy = d := ⟨_, rfl⟩
  rw [hqx] at hsx HQ
  rw [hqy] at hsy HQ
  have bdx : -63 ≤ dx ∧ dx ≤ 63 := by omega
  have bdy : -63 ≤ dy ∧ dy ≤ 63 := by omega
  go_enter Tryz.func208, Tryz.ntmps208
  go_wp2_with fail
  go_ret
  exact ⟨ret_int HQ.out.symm, by rw [HW.out]; exact hB⟩
set_option maxHeartbeats 8000000 in
theorem rObs_ok (W H : Int) (GA PA : Option Addr) (gc pc : Nat) (G P : List Int) (ax ay f bx by' t : Int) (w : World) (hg : Sl 1 icell w w.heap.size GA G)
    (hok : M.okObs W H G P ax ay f bx by' t = true) : Calls Tryz.prog 206 #[tv W H GA PA G.length gc P.length pc, cv ax ay, .int .i64 f, cv bx by', .int .i64 t] w (RetS 2 ccell w (M.obst W G ax ay f bx by' t)) := by
  obtain ⟨V, HW, x0, x1, x2, hB, -⟩ := boxes3 w #[.int .i64 W, .int .i64 H, .slice GA G.length gc, .slice PA P.length pc] 24 #[.int .i64 ax, .int .i64 ay] 113 #[.int .i64 bx, .int .i64 by'] 113
  obtain ⟨hf, ht, hv, hia, hib⟩ := M.okObs_iff.1 hok
  obtain ⟨t1, t2, t3, -, t5, -⟩ := M.tvalid_iff.1 hv
  obtain ⟨a1, a2⟩ := M.inside_iff.1 hia
  obtain ⟨b1, b2⟩ := M.inside_iff.1 hib
  have ga := M.gnd_bd (W := W) t5 (ax, ay)
  have gb := M.gnd_bd (W := W) t5 (bx, by')
  have HG : Hid (∀ i, 0 ≤ M.gnd W G (M.lineAt ax ay bx by' i) ∧ M.gnd W G (M.lineAt ax ay bx by' i) ≤ 9000) := Lib.hid (fun i => M.gnd_bd t5 _)
  have hwh : W * H ≤ 4096 := by have := Int.mul_le_mul t1.2 t2.2 (by omega) (by omega); omega
  have hwh0 : 1 ≤ W * H := by have := Int.mul_le_mul t1.1 t2.1 (by omega) (by omega); omega
  have hgl : G.length ≤ 4096 := by omega
  obtain ⟨ja, Hja, hja⟩ := M.place_nat t1 t2 t3 a1 a2
  obtain ⟨jb, Hjb, hjb⟩ := M.place_nat t1 t2 t3 b1 b2
  obtain ⟨ad, rfl, hbl, hcg⟩ := hg.ints (by omega)
  have HCG := Lib.hid hcg
  have T3 := Lib.hid t3
  clear hok hv hia hib t5 hcg t3 hwh hwh0
  have Hga := Lib.hid (M.gnd_at Hja.out hja)
  have Hgb := Lib.hid (M.gnd_at Hjb.out hjb)
  obtain ⟨i0, hi, hz0, hz1, hz2⟩ := info_parts cellInfo
  have Hi := Lib.hid hi; have Hz0 := Lib.hid hz0; have Hz1 := Lib.hid hz1; have Hz2 := Lib.hid hz2
  clear hi hz0 hz1 hz2
  have hca := hB.cell (p := ad.add ja) (by rw [add_block]; exact hbl)
  rw [HCG.out ja hja, Hga.out] at hca
  have hcb := hB.cell (p := ad.add jb) (by rw [add_block]; exact hbl)
  rw [HCG.out jb hjb, Hgb.out] at hcb
  have lba : (ad.add ja).block < V.heap.size := by rw [add_block]; have := hB.size; omega
  have lbb : (ad.add jb).block < V.heap.size := by rw [add_block]; have := hB.size; omega
  have i1 : (0 : Int) ≤ (ja : Int) := by omega
  have i2 : (ja : Int) < (G.length : Int) := by omega
  have i3 : (0 : Int) ≤ (jb : Int) := by omega
  have i4 : (jb : Int) < (G.length : Int) := by omega
  obtain ⟨c0, c1, c2, c3⟩ := x0.c4
  obtain ⟨d0, d1⟩ := x1.c2
  obtain ⟨e0, e1⟩ := x2.c2
  have l0 := x0.lt
  have l1 := x1.lt
  have l2 := x2.lt
  have HO : Hid (∀ i, M.obsC W G ax ay f bx by' t i = decide ((M.gnd W G (ax, ay) + f) * (((M.lineN ax ay bx by' : Nat) : Int) + 1 - ((i : Int) + 1)) + (M.gnd W G (bx, by') + t) * ((i : Int) + 1) ≤ M.gnd W G (M.lineAt ax ay bx by' i) * (((M.lineN ax ay bx by' : Nat) : Int) + 1))) := Lib.hid (fun i => rfl)
  generalize M.gnd W G (ax, ay) = g1 at *
  generalize M.gnd W G (bx, by') = g2 at *
  go_enter Tryz.func206, Tryz.ntmps206
  go_wp2_with fail
  rw [HW.out]
  refine wp_region_kept V.heap.size V (by kernel_rfl) (by kernel_rfl) (Below.refl _ _) ?_
  repeat (go_big_quiet_step ((go_at_call 219; exact Kept.calls (Nat.le_refl _) (rIndex_at W H _ PA G.length gc P.length pc _ _ _ _ t1 t2 (by assumption) (by assumption) (by assumption)))))
  refine wpQuiet_nil ?_
  rintro w1 ⟨⟨_, hb1⟩, rfl⟩
  have B1 := after_ hB hb1
  have y0 := x0.below hb1
  have y1 := x1.below hb1
  have y2 := x2.below hb1
  clear c0 c1 c2 c3 d0 d1 e0 e1 hca hcb lba lbb i1 i2 i3 i4 l0 l1 l2 x0 x1 x2
  obtain ⟨c0, c1⟩ := y1.c2
  obtain ⟨d0, d1⟩ := y2.c2
  go_wp2_with fail
  refine (rLine_ok ax ay bx by' w1 ⟨a1.1, by omega⟩ ⟨a2.1, by omega⟩ ⟨b1.1, by omega⟩ ⟨b2.1, by omega⟩).mono ?_
  rintro e w2 ⟨LA, lc, rfl, hSL, hb2⟩
  have B2 := after_ B1 hb2
  have z0 := y0.below hb2
  clear c0 c1 d0 d1 y0 y1 y2 B1 hb2 hb1
  have hll : (M.lineN ax ay bx by') ≤ 62 := by
    have := M.span_bd (ax := ax) (ay := ay) (bx := bx) (by' := by') ⟨a1.1, by omega⟩ ⟨a2.1, by omega⟩ ⟨b1.1, by omega⟩ ⟨b2.1, by omega⟩
    unfold M.lineN; omega
  have HL : Hid (∀ i (h : i < (M.line ax ay bx by').length), (M.line ax ay bx by')[i] = M.lineAt ax ay bx by' i) := Lib.hid (fun i h => M.line_at h)
  have HLl := Lib.hid (M.line_length ax ay bx by')
  have HI : Hid (∀ i, i < M.lineN ax ay bx by' → (0 ≤ (M.lineAt ax ay bx by' i).1 ∧ (M.lineAt ax ay bx by' i).1 < W) ∧ (0 ≤ (M.lineAt ax ay bx by' i).2 ∧ (M.lineAt ax ay bx by' i).2 < H)) := Lib.hid (fun i h => M.lineAt_in h a1 a2 b1 b2)
  generalize M.line ax ay bx by' = L at *
  obtain ⟨N, hN⟩ : ∃ N, M.lineN ax ay bx by' = N := ⟨_, rfl⟩
  have HN := Lib.hid hN
  rw [hN] at HO hll HI
  rw [hN] at HLl
  clear hN
  rw [HLl.out]
  go_wp2_with fail
  have hF : 0 ≤ g1 + f ∧ g1 + f ≤ 9500 := by omega
  have hT : 0 ≤ g2 + t ∧ g2 + t ≤ 9500 := by omega
  generalize g1 + f = F at *
  generalize g2 + t = T at *
  obtain ⟨NN, hNN⟩ : ∃ n : Int, (N : Int) + 1 = n := ⟨_, rfl⟩
  rw [hNN] at HO ⊢
  go_loopw [11, 16] (fun out i wr => ∃ k : Nat, k ≤ N ∧ i = .int .i64 ((k : Int) + 1) ∧ Below w2.heap.size w2 wr ∧ wr.ownsRow w2.heap.size 113 2 out (M.obstTo W G ax ay f bx by' t k).length (flat 2 ccell (M.obstTo W G ax ay f bx by' t k))) (fun _ i _ => 64 - (intOf i).toNat)
  case atStart => exact ⟨0, Nat.zero_le _, rfl, Below.refl _ _, own_nil _ _ _ _ _⟩
  case round =>
    obtain ⟨k, hk, rfl, hBr, hown⟩ := hrel
    by_cases hlt : k < N
    · obtain ⟨la, rfl, hlb, e0, he⟩ := (hSL.below hBr).sp (k := k) (by decide) (by rw [HLl.out]; exact hlt)
      have e1 := he 1 (by decide) (by decide)
      clear he
      rw [HL.out] at e0 e1
      obtain ⟨p1, p2⟩ := HI.out k hlt
      have hgp := HG.out k
      have hoc := HO.out k
      have HY : Hid (M.obsC W G ax ay f bx by' t k = true → M.obstTo W G ax ay f bx by' t (k + 1) = M.obstTo W G ax ay f bx by' t k ++ [M.lineAt ax ay bx by' k]) := Lib.hid M.obstTo_yes
      have HZ : Hid (M.obsC W G ax ay f bx by' t k = false → M.obstTo W G ax ay f bx by' t (k + 1) = M.obstTo W G ax ay f bx by' t k) := Lib.hid M.obstTo_no
      have hol := M.obstTo_length W G ax ay f bx by' t k
      generalize M.lineAt ax ay bx by' k = p at *
      obtain ⟨px, py⟩ := p
      simp only [ccell] at e0 e1
      simp at e0 e1
      simp only at p1 p2
      obtain ⟨jp, Hjp, hjp⟩ := M.place_nat t1 t2 T3.out p1 p2
      have Hgp := Lib.hid (M.gnd_at Hjp.out hjp)
      generalize M.gnd W G (px, py) = gp at *
      have s0 := z0.below hBr
      obtain ⟨c0, c1, c2, c3⟩ := s0.c4
      have hBw := B2.trans (hBr.mono B2.size)
      have hgc := hBw.cell (p := ad.add jp) (by rw [add_block]; exact hbl)
      rw [HCG.out jp hjp, Hgp.out] at hgc
      have hbl2 : (ad.add jp).block < wr.heap.size := by rw [add_block]; have := hBw.size; omega
      have hlb2 : (la.add (k * 2)).block < wr.heap.size := Nat.lt_of_lt_of_le hlb hBr.size
      have l0 := s0.lt
      have i1 : (0 : Int) ≤ (jp : Int) := by omega
      have i2 : (jp : Int) < (G.length : Int) := by omega
      have i5 : (k : Int) < (N : Int) := by omega
      have hd : 0 ≤ NN - ((k : Int) + 1) ∧ NN - ((k : Int) + 1) ≤ 63 := by omega
      have m1 : 0 ≤ F * (NN - ((k : Int) + 1)) ∧ F * (NN - ((k : Int) + 1)) ≤ 9500 * 63 := ⟨Int.mul_nonneg hF.1 hd.1, Int.mul_le_mul hF.2 hd.2 hd.1 (by omega)⟩
      have m2 : 0 ≤ T * ((k : Int) + 1) ∧ T * ((k : Int) + 1) ≤ 9500 * 63 := ⟨Int.mul_nonneg hT.1 (by omega), Int.mul_le_mul hT.2 (by omega) (by omega) (by omega)⟩
      have m3 : 0 ≤ gp * NN ∧ gp * NN ≤ 9500 * 63 := ⟨Int.mul_nonneg hgp.1 (by omega), Int.mul_le_mul (by omega) (by omega) (by omega) (by omega)⟩
      have hNb : 1 ≤ NN ∧ NN ≤ 63 := by omega
      have hkN : (k : Int) + 1 < NN := by omega
      have HNN := Lib.hid hNN
      clear hNN
      go_wp2_with fail
      refine wp_region_kept wr.heap.size wr (by kernel_rfl) (by kernel_rfl) (Below.refl _ _) ?_
      repeat (go_big_quiet_step ((go_at_call 219; exact Kept.calls (Nat.le_refl _) (rIndex_at W H _ PA G.length gc P.length pc px py jp _ t1 t2 p1 p2 Hjp))))
      refine wpQuiet_nil ?_
      rintro w3 ⟨⟨_, hb3⟩, rfl⟩
      have hB3 := after_ hBr hb3
      have hown3 := own_below hown hb3
      have f0 := (hb3.cell (p := la.add (k * 2)) hlb2).trans e0
      have f1 := (hb3.cell (p := ⟨(la.add (k * 2)).block, (la.add (k * 2)).off + 1, none⟩) hlb2).trans e1
      clear c0 c1 c2 c3 e0 e1 hgc hbl2 i1 i2 l0 hown s0 hBw hlb2 hlb
      by_cases hc : F * (NN - ((k : Int) + 1)) + T * ((k : Int) + 1) ≤ gp * NN
      · have HT : Hid (M.obstTo W G ax ay f bx by' t (k + 1) = M.obstTo W G ax ay f bx by' t k ++ [(px, py)]) := Lib.hid (HY.out (by rw [hoc]; exact decide_eq_true hc))
        clear hoc HY HZ
        go_wp2_with (at_builtin; refine wpList_push (w0 := w2) (cell := ccell) (y := (px, py)) rfl _ _ _ rfl w2.heap.size w2.heap.size 113 i0 _ 16 Tryz.underlying200 Hi.out Hz0.out Hz1.out Hz2.out rfl (by decide) _ _ _ rfl hown3 _ _ rfl _ rfl (c_one _) (by unfold maxLen; omega) (by omega) hB3.size (Nat.le_refl _) hB3 ?_; intro v' w' hown' hb' _)
        go_roundw
        case rel => exact ⟨k + 1, hlt, by go_num, hb', by rw [HT.out, List.length_append]; exact hown'⟩
        case measure => simp [intOf]; omega
      · have HT : Hid (M.obstTo W G ax ay f bx by' t (k + 1) = M.obstTo W G ax ay f bx by' t k) := Lib.hid (HZ.out (by rw [hoc]; exact decide_eq_false hc))
        clear hoc HY HZ
        go_wp2_with fail
        go_roundw
        case rel => exact ⟨k + 1, hlt, by go_num, hB3, by rw [HT.out]; exact hown3⟩
        case measure => simp [intOf]; omega
    · obtain rfl : k = N := by omega
      have HF : Hid (M.obst W G ax ay f bx by' t = M.obstTo W G ax ay f bx by' t k) := Lib.hid (by unfold M.obst; rw [HN.out])
      rw [hNN]
      go_wp2_with fail
      go_ret
      rw [HF.out]
      obtain ⟨A, c, rfl, hS⟩ := own_slice (by decide) hown
      exact ⟨A, c, rfl, hS, B2.trans (hBr.mono B2.size)⟩
set_option maxHeartbeats 4000000 in
theorem rTotal_ok (W H : Int) (GA PA : Option Addr) (gc pc : Nat) (G P : List Int) (ax ay f bx by' t : Int) (w : World) (hg : Sl 1 icell w w.heap.size GA G)
    (hok : M.okObs W H G P ax ay f bx by' t = true) : Calls Tryz.prog 193 #[tv W H GA PA G.length gc P.length pc, cv ax ay, .int .i64 f, cv bx by', .int .i64 t] w fun e w' => e = .returned (.int .i64 (M.tot W G ax ay f bx by' t)) ∧ Below w.heap.size w w' := by
  obtain ⟨V, HW, x0, x1, x2, hB, -⟩ := boxes3 w #[.int .i64 W, .int .i64 H, .slice GA G.length gc, .slice PA P.length pc] 24 #[.int .i64 ax, .int .i64 ay] 113 #[.int .i64 bx, .int .i64 by'] 113
  have hg1 := (hg.below hB).more hB.size
  obtain ⟨-, -, hv, hia, hib⟩ := M.okObs_iff.1 hok
  obtain ⟨t1, t2, -⟩ := M.tvalid_iff.1 hv
  obtain ⟨a1, a2⟩ := M.c63_of t1 t2 hia
  obtain ⟨b1, b2⟩ := M.c63_of t1 t2 hib
  obtain ⟨s1, s2⟩ := M.sq_bd a1 a2 b1 b2
  have HOK := Lib.hid hok
  clear hok hv hia hib
  obtain ⟨S, hS⟩ : ∃ n : Nat, M.sq ax ay bx by' = (n : Int) := ⟨_, (Int.toNat_of_nonneg s1).symm⟩
  have HS := Lib.hid hS
  have hS2 : S ≤ 7938 := by omega
  have HT : Hid (M.tot W G ax ay f bx by' t = (M.free S : Nat) + 12 * min ((M.obst W G ax ay f bx by' t).length : Int) 5) := Lib.hid (by unfold M.tot; rw [hS, Int.toNat_natCast])
  have hfb := M.free_bd hS2
  have hol : (M.obst W G ax ay f bx by' t).length ≤ 62 := by
    have := M.span_bd a1 a2 b1 b2
    have h2 := M.obstTo_length W G ax ay f bx by' t (M.lineN ax ay bx by')
    unfold M.obst
    unfold M.lineN at h2 ⊢
    omega
  clear hS s1 s2
  go_enter Tryz.func193, Tryz.ntmps193
  go_wp2_with fail
  rw [HW.out]
  refine (rObs_ok W H GA PA gc pc G P ax ay f bx by' t V hg1 HOK.out).mono ?_
  rintro e w1 ⟨OA, oc, rfl, -, hb1⟩
  have B1 := after_ hB hb1
  obtain ⟨c0, c1⟩ := (x1.below hb1).c2
  obtain ⟨d0, d1⟩ := (x2.below hb1).c2
  generalize M.obst W G ax ay f bx by' t = O at *
  generalize O.length = n at *
  by_cases h5 : 5 < n
  · go_wp2_with fail
    refine (refSquare_ok ax ay bx by' w1 a1 a2 b1 b2).mono ?_
    rintro e w2 ⟨rfl, hb2⟩
    have B2 := after_ B1 hb2
    rw [HS.out]
    go_wp2_with fail
    refine (refFree_ok S w2 hS2).mono ?_
    rintro e w3 ⟨rfl, hb3⟩
    have B3 := after_ B2 hb3
    generalize M.free S = F at *
    go_wp2_with fail
    go_ret
    exact ⟨ret_int (by rw [HT.out]; omega), B3⟩
  · go_wp2_with fail
    refine (refSquare_ok ax ay bx by' w1 a1 a2 b1 b2).mono ?_
    rintro e w2 ⟨rfl, hb2⟩
    have B2 := after_ B1 hb2
    rw [HS.out]
    go_wp2_with fail
    refine (refFree_ok S w2 hS2).mono ?_
    rintro e w3 ⟨rfl, hb3⟩
    have B3 := after_ B2 hb3
    generalize M.free S = F at *
    go_wp2_with fail
    go_ret
    exact ⟨ret_int (by rw [HT.out]; omega), B3⟩
end Go.Proofs.YtciolgmljpamlaaGreatDoor
end

section
namespace Go.Proofs.YtciolgmljpamlaaGreatDoor
open Go Go.RowKit
set_option maxRecDepth 100000
abbrev av (h : Int) (A : Option Addr) (n c : Nat) : Value := .agg #[.int .i64 h, .slice A n c]
structure Tab (w : World) : Prop where
  c0 : w.cell? ⟨1, 0, none⟩ = some (.int .i64 1)
  c1 : w.cell? ⟨1, 1, none⟩ = some (.int .i64 0)
  c2 : w.cell? ⟨1, 2, none⟩ = some (.int .i64 0)
  c3 : w.cell? ⟨1, 3, none⟩ = some (.int .i64 1)
  c4 : w.cell? ⟨1, 4, none⟩ = some (.int .i64 0)
  c5 : w.cell? ⟨1, 5, none⟩ = some (.int .i64 1)
  c6 : w.cell? ⟨1, 6, none⟩ = some (.int .i64 (-1))
  c7 : w.cell? ⟨1, 7, none⟩ = some (.int .i64 0)
  c8 : w.cell? ⟨1, 8, none⟩ = some (.int .i64 (-1))
  c9 : w.cell? ⟨1, 9, none⟩ = some (.int .i64 0)
  c10 : w.cell? ⟨1, 10, none⟩ = some (.int .i64 0)
  c11 : w.cell? ⟨1, 11, none⟩ = some (.int .i64 (-1))
  c12 : w.cell? ⟨1, 12, none⟩ = some (.int .i64 0)
  c13 : w.cell? ⟨1, 13, none⟩ = some (.int .i64 (-1))
  c14 : w.cell? ⟨1, 14, none⟩ = some (.int .i64 1)
  c15 : w.cell? ⟨1, 15, none⟩ = some (.int .i64 0)
theorem Tab.lt {w : World} (h : Tab w) : 1 < w.heap.size := by
  apply Nat.lt_of_not_le; intro hle
  have := h.c0
  simp [World.cell?, Array.getElem?_eq_none hle] at this
theorem Tab.kept {w w' : World} (h : Tab w) (hb : Below w.heap.size w w') : Tab w' := by
  have hl := h.lt
  have k : ∀ j, w'.cell? ⟨1, j, none⟩ = w.cell? ⟨1, j, none⟩ := fun j => hb.cell (p := ⟨1, j, none⟩) hl
  exact ⟨(k 0).trans h.c0, (k 1).trans h.c1, (k 2).trans h.c2, (k 3).trans h.c3, (k 4).trans h.c4, (k 5).trans h.c5, (k 6).trans h.c6, (k 7).trans h.c7, (k 8).trans h.c8, (k 9).trans h.c9, (k 10).trans h.c10, (k 11).trans h.c11, (k 12).trans h.c12, (k 13).trans h.c13, (k 14).trans h.c14, (k 15).trans h.c15⟩
set_option maxHeartbeats 1000000 in
theorem tooFar_no (d : Int) (w : World) (h : -1000 ≤ d ∧ d ≤ 1000) : Calls Tryz.prog 199 #[.int .i64 d] w fun e w' => e = .returned (.bool false) ∧ w = w' := by
  have q1 : decide (d < -1048576) = false := by simp; omega
  have q2 : decide (1048576 < d) = false := by simp; omega
  go_enter Tryz.func199, Tryz.ntmps199
  go_wp2_with fail
  go_ret
  exact ⟨rfl, rfl⟩
set_option maxHeartbeats 2000000 in
theorem steps_any (u v : Int) (w : World) (hu : -1000 ≤ u ∧ u ≤ 1000) (hv : -1000 ≤ v ∧ v ≤ 1000) : Calls Tryz.prog 200 #[.int .i64 u, .int .i64 v] w fun e w' => e = .returned (.int .i64 (M.steps u v)) ∧ w = w' := by
  have HS : Hid (M.steps u v = if 2 * u ≤ v then 3 else if u ≤ v then 2 else if u ≤ 2 * v then 1 else 0) := Lib.hid rfl
  by_cases h1 : 2 * u ≤ v
  · have HF : Hid ((3 : Int) = M.steps u v) := Lib.hid (by rw [HS.out, if_pos h1])
    go_enter Tryz.func200, Tryz.ntmps200
    go_wp2_with fail
    go_ret
    exact ⟨ret_int HF.out, rfl⟩
  · by_cases h2 : u ≤ v
    · have HF : Hid ((2 : Int) = M.steps u v) := Lib.hid (by rw [HS.out, if_neg h1, if_pos h2])
      go_enter Tryz.func200, Tryz.ntmps200
      go_wp2_with fail
      go_ret
      exact ⟨ret_int HF.out, rfl⟩
    · by_cases h3 : u ≤ 2 * v
      · have HF : Hid ((1 : Int) = M.steps u v) := Lib.hid (by rw [HS.out, if_neg h1, if_neg h2, if_pos h3])
        go_enter Tryz.func200, Tryz.ntmps200
        go_wp2_with fail
        go_ret
        exact ⟨ret_int HF.out, rfl⟩
      · have HF : Hid ((0 : Int) = M.steps u v) := Lib.hid (by rw [HS.out, if_neg h1, if_neg h2, if_neg h3])
        go_enter Tryz.func200, Tryz.ntmps200
        go_wp2_with fail
        go_ret
        exact ⟨ret_int HF.out, rfl⟩
set_option maxHeartbeats 4000000 in
theorem direction_ok (dx dy : Int) (w : World) (ht : Tab w) (hx : -100 ≤ dx ∧ dx ≤ 100) (hy : -100 ≤ dy ∧ dy ≤ 100) (h0 : ¬ (dx = 0 ∧ dy = 0)) :
    Calls Tryz.prog 178 #[.int .i64 dx, .int .i64 dy] w fun e w' => e = .returned (.tuple #[.int .i64 (M.dir dx dy), .int .i64 0]) ∧ Below w.heap.size w w' := by
  obtain ⟨c0, c1, c2, c3, c4, c5, c6, c7, c8, c9, c10, c11, c12, c13, c14, c15⟩ := ht
  go_enter Tryz.func178, Tryz.ntmps178
  go_wp2_with fail
  refine (tooFar_no dx w (by omega)).mono ?_
  rintro e w1 ⟨rfl, rfl⟩
  go_wp2_with fail
  refine (tooFar_no dy w (by omega)).mono ?_
  rintro e w1 ⟨rfl, rfl⟩
  go_wp2_with fail
  have j0 : ∀ w, (Instr.index 225 (.agg #[.int .i64 1, .int .i64 0, .int .i64 0, .int .i64 1, .int .i64 0, .int .i64 1, .int .i64 (-1), .int .i64 0, .int .i64 (-1), .int .i64 0, .int .i64 0, .int .i64 (-1), .int .i64 0, .int .i64 (-1), .int .i64 1, .int .i64 0]) (.int .i64 0)).run Tryz.prog w = .ok (.agg #[.int .i64 1, .int .i64 0, .int .i64 0, .int .i64 1]) w := fun _ => by kernel_rfl
  have j1 : ∀ w, (Instr.index 225 (.agg #[.int .i64 1, .int .i64 0, .int .i64 0, .int .i64 1, .int .i64 0, .int .i64 1, .int .i64 (-1), .int .i64 0, .int .i64 (-1), .int .i64 0, .int .i64 0, .int .i64 (-1), .int .i64 0, .int .i64 (-1), .int .i64 1, .int .i64 0]) (.int .i64 1)).run Tryz.prog w = .ok (.agg #[.int .i64 0, .int .i64 1, .int .i64 (-1), .int .i64 0]) w := fun _ => by kernel_rfl
  have j2 : ∀ w, (Instr.index 225 (.agg #[.int .i64 1, .int .i64 0, .int .i64 0, .int .i64 1, .int .i64 0, .int .i64 1, .int .i64 (-1), .int .i64 0, .int .i64 (-1), .int .i64 0, .int .i64 0, .int .i64 (-1), .int .i64 0, .int .i64 (-1), .int .i64 1, .int .i64 0]) (.int .i64 2)).run Tryz.prog w = .ok (.agg #[.int .i64 (-1), .int .i64 0, .int .i64 0, .int .i64 (-1)]) w := fun _ => by kernel_rfl
  have j3 : ∀ w, (Instr.index 225 (.agg #[.int .i64 1, .int .i64 0, .int .i64 0, .int .i64 1, .int .i64 0, .int .i64 1, .int .i64 (-1), .int .i64 0, .int .i64 (-1), .int .i64 0, .int .i64 0, .int .i64 (-1), .int .i64 0, .int .i64 (-1), .int .i64 1, .int .i64 0]) (.int .i64 3)).run Tryz.prog w = .ok (.agg #[.int .i64 0, .int .i64 (-1), .int .i64 1, .int .i64 0]) w := fun _ => by kernel_rfl
  have HD : Hid (M.dir dx dy = if (0 < dx ∧ 0 ≤ dy) then M.steps dx dy else if (0 < dy ∧ 0 ≤ -dx) then 4 + M.steps dy (-dx) else if (0 < -dx ∧ 0 ≤ -dy) then 8 + M.steps (-dx) (-dy) else 12 + M.steps (-dy) dx) := Lib.hid rfl
  clear c0 c1 c2 c3 c4 c5 c6 c7 c8 c9 c10 c11 c12 c13 c14 c15
  go_loopw [6, 7, 8, 9, 17] (fun _ _ _ _ i wr => (i = .int .i64 0 ∨ (i = .int .i64 1 ∧ Hid (¬ (0 < dx ∧ 0 ≤ dy))) ∨ (i = .int .i64 2 ∧ Hid (¬ (0 < dx ∧ 0 ≤ dy) ∧ ¬ (0 < dy ∧ 0 ≤ -dx))) ∨ (i = .int .i64 3 ∧ Hid (¬ (0 < dx ∧ 0 ≤ dy) ∧ ¬ (0 < dy ∧ 0 ≤ -dx) ∧ ¬ (0 < -dx ∧ 0 ≤ -dy)))) ∧ Below w.heap.size w wr) (fun _ _ _ _ i _ => 4 - (intOf i).toNat)
  case atStart => exact ⟨.inl rfl, Below.refl _ _⟩
  case round =>
    obtain ⟨rfl | ⟨rfl, H1⟩ | ⟨rfl, H1⟩ | ⟨rfl, H1⟩, hBr⟩ := hrel
    · by_cases hc : (0 < dx ∧ 0 ≤ dy)
      · have HF : Hid (M.steps dx dy = M.dir dx dy) := Lib.hid (by rw [HD.out, if_pos hc])
        have hsb := M.steps_bd dx dy
        obtain ⟨hcu, hcv⟩ := hc
        have qu : decide (0 < dx) = true := by simp; omega
        have qv : decide (0 ≤ dy) = true := by simp; omega
        go_wp2_with fail
        refine (steps_any _ _ _ (by omega) (by omega)).mono ?_
        rintro e w2 ⟨rfl, rfl⟩
        generalize M.steps dx dy = S at *
        go_wp2_with fail
        go_ret2
        exact ⟨ret_int2 (by rw [← HF.out]) rfl, hBr.alloc hBr.size _⟩
      · have HN := Lib.hid hc
        by_cases hu : 0 < dx
        · have hv : ¬ 0 ≤ dy := fun h => hc ⟨hu, h⟩
          clear hc
          have qu : decide (0 < dx) = true := by simp; omega
          have qv : decide (0 ≤ dy) = false := by simp; omega
          go_wp2_with fail
          go_roundw
          case rel => exact ⟨.inr (.inl ⟨rfl, HN⟩), hBr.alloc hBr.size _⟩
          case measure => simp [intOf]
        · clear hc
          have qu : decide (0 < dx) = false := by simp; omega
          go_wp2_with fail
          go_roundw
          case rel => exact ⟨.inr (.inl ⟨rfl, HN⟩), hBr.alloc hBr.size _⟩
          case measure => simp [intOf]
    · by_cases hc : (0 < dy ∧ 0 ≤ -dx)
      · have HF : Hid (4 + M.steps dy (-dx) = M.dir dx dy) := Lib.hid (by rw [HD.out, if_neg (H1.out), if_pos hc])
        have hsb := M.steps_bd dy (-dx)
        obtain ⟨hcu, hcv⟩ := hc
        have qu : decide (0 < dy) = true := by simp; omega
        have qv : decide (0 ≤ -dx) = true := by simp; omega
        have qv2 : decide (dx ≤ 0) = true := by simp; omega
        go_wp2_with fail
        refine (steps_any _ _ _ (by omega) (by omega)).mono ?_
        rintro e w2 ⟨rfl, rfl⟩
        generalize M.steps dy (-dx) = S at *
        go_wp2_with fail
        go_ret2
        exact ⟨ret_int2 (by rw [← HF.out]) rfl, hBr.alloc hBr.size _⟩
      · have HN := Lib.hid (And.intro H1.out hc)
        by_cases hu : 0 < dy
        · have hv : ¬ 0 ≤ -dx := fun h => hc ⟨hu, h⟩
          clear hc
          have qu : decide (0 < dy) = true := by simp; omega
          have qv : decide (0 ≤ -dx) = false := by simp; omega
          have qv2 : decide (dx ≤ 0) = false := by simp; omega
          go_wp2_with fail
          go_roundw
          case rel => exact ⟨.inr (.inr (.inl ⟨rfl, HN⟩)), hBr.alloc hBr.size _⟩
          case measure => simp [intOf]
        · clear hc
          have qu : decide (0 < dy) = false := by simp; omega
          go_wp2_with fail
          go_roundw
          case rel => exact ⟨.inr (.inr (.inl ⟨rfl, HN⟩)), hBr.alloc hBr.size _⟩
          case measure => simp [intOf]
    · by_cases hc : (0 < -dx ∧ 0 ≤ -dy)
      · have HF : Hid (8 + M.steps (-dx) (-dy) = M.dir dx dy) := Lib.hid (by rw [HD.out, if_neg (H1.out.1), if_neg (H1.out.2), if_pos hc])
        have hsb := M.steps_bd (-dx) (-dy)
        obtain ⟨hcu, hcv⟩ := hc
        have qu : decide (0 < -dx) = true := by simp; omega
        have qu2 : decide (dx < 0) = true := by simp; omega
        have qv : decide (0 ≤ -dy) = true := by simp; omega
        have qv2 : decide (dy ≤ 0) = true := by simp; omega
        go_wp2_with fail
        refine (steps_any _ _ _ (by omega) (by omega)).mono ?_
        rintro e w2 ⟨rfl, rfl⟩
        generalize M.steps (-dx) (-dy) = S at *
        go_wp2_with fail
        go_ret2
        exact ⟨ret_int2 (by rw [← HF.out]) rfl, hBr.alloc hBr.size _⟩
      · have HN := Lib.hid (And.intro H1.out.1 (And.intro H1.out.2 hc))
        by_cases hu : 0 < -dx
        · have hv : ¬ 0 ≤ -dy := fun h => hc ⟨hu, h⟩
          clear hc
          have qu : decide (0 < -dx) = true := by simp; omega
          have qu2 : decide (dx < 0) = true := by simp; omega
          have qv : decide (0 ≤ -dy) = false := by simp; omega
          have qv2 : decide (dy ≤ 0) = false := by simp; omega
          go_wp2_with fail
          go_roundw
          case rel => exact ⟨.inr (.inr (.inr (⟨rfl, HN⟩))), hBr.alloc hBr.size _⟩
          case measure => simp [intOf]
        · clear hc
          have qu : decide (0 < -dx) = false := by simp; omega
          have qu2 : decide (dx < 0) = false := by simp; omega
          go_wp2_with fail
          go_roundw
          case rel => exact ⟨.inr (.inr (.inr (⟨rfl, HN⟩))), hBr.alloc hBr.size _⟩
          case measure => simp [intOf]
    · have hc : (0 < -dy ∧ 0 ≤ dx) := by have := H1.out; omega
      have HF : Hid (12 + M.steps (-dy) dx = M.dir dx dy) := Lib.hid (by rw [HD.out, if_neg (H1.out.1), if_neg (H1.out.2.1), if_neg (H1.out.2.2)])
      have hsb := M.steps_bd (-dy) dx
      obtain ⟨hcu, hcv⟩ := hc
      have qu : decide (0 < -dy) = true := by simp; omega
      have qu2 : decide (dy < 0) = true := by simp; omega
      have qv : decide (0 ≤ dx) = true := by simp; omega
      go_wp2_with fail
      refine (steps_any _ _ _ (by omega) (by omega)).mono ?_
      rintro e w2 ⟨rfl, rfl⟩
      generalize M.steps (-dy) dx = S at *
      go_wp2_with fail
      go_ret2
      exact ⟨ret_int2 (by rw [← HF.out]) rfl, hBr.alloc hBr.size _⟩
end Go.Proofs.YtciolgmljpamlaaGreatDoor
end
