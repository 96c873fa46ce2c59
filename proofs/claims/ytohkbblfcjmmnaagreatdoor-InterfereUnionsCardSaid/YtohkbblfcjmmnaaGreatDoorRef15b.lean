/- The references of layer 15: Hit, Cells, People, Exceeds; the program's Hit and Union. -/
import Derived.Test.YtohkbblfcjmmnaaGreatDoorRef15
namespace Go.Proofs.YtohkbblfcjmmnaaGreatDoor
open Go Go.RowKit
set_option maxRecDepth 100000

def M.hit (W : Int) (G : List Int) (a b : St) (r : Int) (i : Nat) : Bool := M.cov W G a (M.cx W i) (M.cy W i) && M.dist W G a r (M.cx W i) (M.cy W i) [b]
def M.lostTo (W : Int) (G : List Int) (a b : St) (r : Int) (n : Nat) : List Int := ((List.range n).filter fun (i : Nat) => M.hit W G a b r i).map fun (i : Nat) => (i : Int)
theorem M.lostTo_eq (W H : Int) (G : List Int) (a b : St) (r : Int) : M.lost W H G a r [b] = M.lostTo W G a b r (W * H).toNat := rfl
theorem M.lostTo_succ (W : Int) (G : List Int) (a b : St) (r : Int) (n : Nat) : M.lostTo W G a b r (n + 1) = M.lostTo W G a b r n ++ if M.hit W G a b r n then [(n : Int)] else [] := by
  unfold M.lostTo
  rw [List.range_succ, List.filter_append, List.map_append]
  congr 1
  by_cases h : M.hit W G a b r n = true
  · simp [h]
  · simp [h]
theorem M.lostTo_len (W : Int) (G : List Int) (a b : St) (r : Int) (n : Nat) : (M.lostTo W G a b r n).length ≤ n := by
  unfold M.lostTo
  rw [List.length_map]
  have := List.length_filter_le (fun (i : Nat) => M.hit W G a b r i) (List.range n)
  simpa using this
theorem M.dist1 (W : Int) (G : List Int) (a b : St) (r cx cy : Int) : M.dist W G a r cx cy [b] = decide (M.field W G a cx cy - M.field W G b cx cy < r) := by
  unfold M.dist
  simp

set_option maxHeartbeats 8000000 in
theorem rHit_ok (W H : Int) (GA PA : Option Addr) (gc pc : Nat) (G P : List Int) (a b : St) (A B : Option Addr) (c d : Nat) (o : Int) (i : Nat) (w : World) (hg : Sl 1 icell w w.heap.size GA G) (hS : Sl 1 icell w w.heap.size A a.pat) (hT : Sl 1 icell w w.heap.size B b.pat) (hoa : M.okS W H G P a = true) (hob : M.okS W H G P b = true) (hi : (i : Int) < W * H) :
    Calls Tryz.prog 14 #[tv W H GA PA G.length gc P.length pc, stv a A c, stv b B d, .int .i64 o, .int .i64 i] w fun e w' => e = .returned (.bool (M.hit W G a b (M.ratio o) i)) ∧ Below w.heap.size w w' := by
  obtain ⟨V, HW, x0, x1, x2, hB, -⟩ := boxes3 w #[.int .i64 W, .int .i64 H, .slice GA G.length gc, .slice PA P.length pc] 24 (stc a A c) 28 (stc b B d) 28
  obtain ⟨-, htv, -, -⟩ := M.okS_iff.1 hoa
  obtain ⟨r1, r2, -⟩ := M.tvalid_iff.1 htv
  obtain ⟨wh1, wh2⟩ := M.wh_le r1 r2
  obtain ⟨hcx, hcy⟩ := M.cell_in (W := W) (H := H) (i := i) (by omega) hi
  have hA := M.okS_F hoa hcx.1 hcx.2 hcy.1 hcy.2
  have hBk := M.okS_F hob hcx.1 hcx.2 hcy.1 hcy.2
  have fa1 := M.field_bd hA
  have fb1 := M.field_bd hBk
  obtain ⟨r, hr⟩ : ∃ r, M.hit W G a b (M.ratio o) i = r := ⟨_, rfl⟩
  rw [hr]
  unfold M.hit at hr
  rw [M.dist1] at hr
  have HR := Lib.hid hr
  clear hr htv
  obtain ⟨c0, c1, c2, c3⟩ := x0.c4
  have hV := HW.out
  go_enter Tryz.func14, Tryz.ntmps14
  go_wp2_with fail
  clear hV c0 c1 c2 c3
  refine (rAt_ok W H GA PA G.length gc P.length pc i V r1 (by omega)).mono ?_
  rintro e w1 ⟨rfl, hb1⟩
  have B1 := after_ hB hb1
  obtain ⟨X, HX, u0, hbX, -⟩ := boxes1 w1 #[.int .i64 (M.cx W i), .int .i64 (M.cy W i)] 60
  have BX := after_ B1 hbX
  have y0 := (x0.below hb1).below hbX
  have y1 := (x1.below hb1).below hbX
  have y2 := (x2.below hb1).below hbX
  obtain ⟨c0, c1, c2, c3⟩ := y0.c4
  obtain ⟨b0, b1, b2, b3, b4, b5, b6, b7⟩ := y1.c8
  obtain ⟨e0, e1, e2, e3, e4, e5, e6, e7⟩ := y2.c8
  obtain ⟨d0, d1⟩ := u0.c2
  have l0 := y0.lt
  have l1 := y1.lt
  have l2 := y2.lt
  have l3 := u0.lt
  have hg1 := (hg.below BX).more BX.size
  have hS1 := (hS.below BX).more BX.size
  have hT1 := (hT.below BX).more BX.size
  obtain ⟨cv', HCV⟩ : ∃ z, Hid (M.cov W G a (M.cx W i) (M.cy W i) = z) := ⟨_, Lib.hid rfl⟩
  rw [HCV.out] at HR
  have kC : Hid (∀ w1, Sl 1 icell w1 w1.heap.size GA G → Sl 1 icell w1 w1.heap.size A a.pat → Calls Tryz.prog 40 #[tv W H GA PA G.length gc P.length pc, stv a A c, cv (M.cx W i) (M.cy W i)] w1 fun e w' => e = .returned (.bool cv') ∧ Below w1.heap.size w1 w') := Lib.hid (fun w1 h1 h2 => by rw [← HCV.out]; exact rCovers_ok W H GA PA gc pc G P a A c _ _ w1 h1 h2 hA)
  have kF1 : Hid (∀ w1, Sl 1 icell w1 w1.heap.size GA G → Sl 1 icell w1 w1.heap.size A a.pat → Calls Tryz.prog 41 #[tv W H GA PA G.length gc P.length pc, stv a A c, cv (M.cx W i) (M.cy W i)] w1 fun e w' => e = .returned (.int .i64 (M.field W G a (M.cx W i) (M.cy W i))) ∧ Below w1.heap.size w1 w') := Lib.hid (fun w1 h1 h2 => rField_ok W H GA PA gc pc G P a A c _ _ w1 h1 h2 hA)
  have kF2 : Hid (∀ w1, Sl 1 icell w1 w1.heap.size GA G → Sl 1 icell w1 w1.heap.size B b.pat → Calls Tryz.prog 41 #[tv W H GA PA G.length gc P.length pc, stv b B d, cv (M.cx W i) (M.cy W i)] w1 fun e w' => e = .returned (.int .i64 (M.field W G b (M.cx W i) (M.cy W i))) ∧ Below w1.heap.size w1 w') := Lib.hid (fun w1 h1 h2 => rField_ok W H GA PA gc pc G P b B d _ _ w1 h1 h2 hBk)
  clear hA hBk
  have hX := HX.out
  cases cv'
  · have HF : Hid (false = r) := Lib.hid (by have := HR.out; simpa using this)
    go_wp2_with fail
    clear hX
    refine wp_region_kept X.heap.size X (by kernel_rfl) (by kernel_rfl) (Below.refl _ _) ?_
    repeat (go_big_quiet_step ((first | (go_at_call 40; exact Kept.calls (Nat.le_refl _) (kC.out _ hg1.kept hS1.kept)))))
    refine wpQuiet_nil ?_
    rintro w5 ⟨⟨_, hb5⟩, rfl⟩
    go_wp2_with fail
    go_ret
    exact ⟨ret_bool HF.out, after_ BX hb5⟩
  · have HF : Hid (decide (M.field W G a (M.cx W i) (M.cy W i) - M.field W G b (M.cx W i) (M.cy W i) < M.ratio o) = r) := Lib.hid (by have := HR.out; simpa using this)
    have hro : -46 ≤ M.ratio o ∧ M.ratio o ≤ 30 := by unfold M.ratio; split <;> omega
    go_wp2_with fail
    clear hX
    refine wp_region_kept X.heap.size X (by kernel_rfl) (by kernel_rfl) (Below.refl _ _) ?_
    repeat (go_big_quiet_step ((first | (go_at_call 40; exact Kept.calls (Nat.le_refl _) (kC.out _ hg1.kept hS1.kept)) | (go_at_call 41; with_reducible exact Kept.calls (Nat.le_refl _) (kF1.out _ hg1.kept hS1.kept)) | (go_at_call 41; with_reducible exact Kept.calls (Nat.le_refl _) (kF2.out _ hg1.kept hT1.kept)) | (go_at_call 12; exact Kept.same (rRatio_ok o _)))))
    refine wpQuiet_nil ?_
    rintro w5 ⟨⟨_, hb5⟩, rfl⟩
    go_wp2_with fail
    go_ret
    exact ⟨ret_bool HF.out, after_ BX hb5⟩

set_option maxHeartbeats 8000000 in
theorem rCells15_ok (W H : Int) (GA PA : Option Addr) (gc pc : Nat) (G P : List Int) (a b : St) (A B : Option Addr) (c d : Nat) (o : Int) (w : World) (hg : Sl 1 icell w w.heap.size GA G) (hS : Sl 1 icell w w.heap.size A a.pat) (hT : Sl 1 icell w w.heap.size B b.pat) (hoa : M.okS W H G P a = true) (hob : M.okS W H G P b = true) :
    Calls Tryz.prog 17 #[tv W H GA PA G.length gc P.length pc, stv a A c, stv b B d, .int .i64 o] w (RetS 1 icell w (M.lost W H G a (M.ratio o) [b])) := by
  obtain ⟨V, HW, x0, x1, x2, hB, -⟩ := boxes3 w #[.int .i64 W, .int .i64 H, .slice GA G.length gc, .slice PA P.length pc] 24 (stc a A c) 28 (stc b B d) 28
  obtain ⟨i0, hi, hz0, hz1, hz2⟩ := info_parts intInfo
  have Hi := Lib.hid hi; have Hz0 := Lib.hid hz0; have Hz1 := Lib.hid hz1; have Hz2 := Lib.hid hz2
  clear hi hz0 hz1 hz2
  obtain ⟨-, htv, -, -⟩ := M.okS_iff.1 hoa
  obtain ⟨r1, r2, -⟩ := M.tvalid_iff.1 htv
  obtain ⟨wh1, wh2⟩ := M.wh_le r1 r2
  obtain ⟨n, hn⟩ : ∃ n : Nat, W * H = n := ⟨(W * H).toNat, by omega⟩
  have HOA := Lib.hid hoa
  have HOB := Lib.hid hob
  clear hoa hob htv
  rw [M.lostTo_eq, show (W * H).toNat = n by omega]
  go_enter Tryz.func17, Tryz.ntmps17
  go_wp2_with fail
  rw [HW.out]
  go_loopw [9, 10] (fun out i wr => ∃ k : Nat, k ≤ n ∧ i = .int .i64 k ∧ Below w.heap.size w wr ∧ Below V.heap.size V wr ∧ wr.ownsRow V.heap.size 3 1 out (M.lostTo W G a b (M.ratio o) k).length (flat 1 icell (M.lostTo W G a b (M.ratio o) k))) (fun _ i _ => n - (intOf i).toNat)
  case atStart => exact ⟨0, Nat.zero_le _, rfl, hB, Below.refl _ _, own_nil _ _ _ _ _⟩
  case round =>
    obtain ⟨k, hk, rfl, hBw, hBr, hown⟩ := hrel
    have y0 := x0.below hBr
    have y1 := x1.below hBr
    have y2 := x2.below hBr
    obtain ⟨c0, c1, c2, c3⟩ := y0.c4
    have hmul : W * H = (n : Int) := hn
    by_cases hlt : k < n
    · obtain ⟨b0, b1, b2, b3, b4, b5, b6, b7⟩ := y1.c8
      obtain ⟨e0, e1, e2, e3, e4, e5, e6, e7⟩ := y2.c8
      have hal := M.lostTo_len W G a b (M.ratio o) k
      have HSC := Lib.hid (M.lostTo_succ W G a b (M.ratio o) k)
      go_wp2_with fail
      clear c0 c1 c2 c3 b0 b1 b2 b3 b4 b5 b6 b7 e0 e1 e2 e3 e4 e5 e6 e7
      refine (rHit_ok W H GA PA gc pc G P a b A B c d o k wr ((hg.below hBw).more hBw.size) ((hS.below hBw).more hBw.size) ((hT.below hBw).more hBw.size) HOA.out HOB.out (by omega)).mono ?_
      rintro e w5 ⟨rfl, hb5⟩
      have hown5 := own_below hown hb5
      have B5 := after_ hBr hb5
      have Bw5 := after_ hBw hb5
      cases hh : M.hit W G a b (M.ratio o) k with
      | false =>
        have HS2 := Lib.hid (HSC.out.trans (by rw [hh]; simp : _ = M.lostTo W G a b (M.ratio o) k))
        go_wp2_with fail
        go_roundw
        case rel => exact ⟨k + 1, hlt, by go_num, Bw5, B5, by rw [HS2.out]; exact hown5⟩
        case measure => simp [intOf]; omega
      | true =>
        have HS2 := Lib.hid (HSC.out.trans (by rw [hh]; simp : _ = M.lostTo W G a b (M.ratio o) k ++ [(k : Int)]))
        go_wp2_with (at_builtin; refine wpList_push (w0 := V) (cell := icell) (y := (k : Int)) rfl _ _ _ rfl V.heap.size V.heap.size 3 i0 _ 8 Tryz.underlying22 Hi.out Hz0.out Hz1.out Hz2.out rfl (by decide) _ _ _ rfl hown5 _ _ rfl _ rfl (fun _ => rfl) (by unfold maxLen; omega) (by omega) B5.size (Nat.le_refl _) B5 ?_; intro v' w' hown' hb' _)
        go_roundw
        case rel => exact ⟨k + 1, hlt, by go_num, hB.trans (hb'.mono hB.size), hb', by rw [HS2.out, List.length_append]; exact hown'⟩
        case measure => simp [intOf]; omega
    · obtain rfl : k = n := by omega
      obtain ⟨A9, c9, rfl, hS9⟩ := own_slice (by decide) hown
      go_wp2_with fail
      go_ret
      exact ⟨A9, c9, rfl, hS9, hBw⟩

set_option maxHeartbeats 4000000 in
theorem rPeople15_ok (W H : Int) (GA PA : Option Addr) (gc pc gl : Nat) (P : List Int) (A : Option Addr) (c : Nat) (l : List Int) (w : World) (hp : Sl 1 icell w w.heap.size PA P) (hl : Sl 1 icell w w.heap.size A l) (hW : 1 ≤ W ∧ W ≤ 64) (hH : 1 ≤ H ∧ H ≤ 64) (hPl : (P.length : Int) = W * H) (hPv : ∀ g ∈ P, 0 ≤ g ∧ g ≤ 1000000) (hlen : l.length ≤ 100000) (hin : ∀ x ∈ l, 0 ≤ x ∧ x < W * H) :
    Calls Tryz.prog 19 #[tv W H GA PA gl gc P.length pc, .slice A l.length c] w fun e w' => e = .returned (.int .i64 (M.total P l)) ∧ Below w.heap.size w w' := by
  obtain ⟨V, HW, x0, hB, -⟩ := boxes1 w #[.int .i64 W, .int .i64 H, .slice GA gl gc, .slice PA P.length pc] 24
  have k := rTot_ok W H GA PA gc pc gl P A c l V ((hp.below hB).more hB.size) ((hl.below hB).more hB.size) hW hH hPl hPv hlen hin
  generalize M.total P l = r at *
  go_enter Tryz.func19, Tryz.ntmps19
  go_wp2_with fail
  rw [HW.out]
  refine k.mono ?_
  rintro e w1 ⟨rfl, hb1⟩
  go_wp2_with fail
  go_ret
  exact ⟨rfl, after_ hB hb1⟩

theorem rExceeds_ok (l p s : Int) (w : World) (h1 : 0 ≤ 1000 * l ∧ 1000 * l ≤ 4611686018427387904) (h2 : 0 ≤ s * p ∧ s * p ≤ 4611686018427387904) :
    Calls Tryz.prog 22 #[.int .i64 l, .int .i64 p, .int .i64 s] w fun e w' => e = .returned (.bool (decide (s * p < 1000 * l))) ∧ w = w' := by
  go_enter Tryz.func22, Tryz.ntmps22
  go_wp2_with fail
  go_ret
  exact ⟨rfl, rfl⟩

set_option maxHeartbeats 8000000 in
theorem iunion_any (W H : Int) (GA PA : Option Addr) (gc pc : Nat) (G P : List Int) (a : St) (A : Option Addr) (c : Nat) (LA : Option Addr) (lc : Nat) (es : List SE) (w : World) (ht : Tab w) (hg : Sl 1 icell w w.heap.size GA G) (hp : Sl 1 icell w w.heap.size PA P) (hS : Sl 1 icell w w.heap.size A a.pat) (hL : Sl 8 secell w w.heap.size LA es) (hP : Pats w es)
    (hl : es.length ≤ 1000) (hgl : G.length ≤ 9223372036854775806) (hpl' : P.length ≤ 9223372036854775806) (hpa : a.pat.length ≤ 1000) (hpl : ∀ e ∈ es, e.s.pat.length ≤ 1000) :
    Calls Tryz.prog 23 #[tv W H GA PA G.length gc P.length pc, stv a A c, .slice LA es.length lc] w fun e w' => e = .returned (.tuple #[.int .i64 (M.peoR W H G P a 0 (es.map (·.s))).1, .int .i64 (M.peoR W H G P a 0 (es.map (·.s))).2]) ∧ Below w.heap.size w w' := by
  obtain ⟨V, HW, x0, x1, hB, -⟩ := boxes2 w #[.int .i64 W, .int .i64 H, .slice GA G.length gc, .slice PA P.length pc] 24 (stc a A c) 28
  have k := lost_any W H GA PA gc pc G P a A c 0 LA lc es V (ht.kept hB) ((hg.below hB).more hB.size) ((hp.below hB).more hB.size) ((hS.below hB).more hB.size) ((hL.below hB).more hB.size) (hP.below hB) hl hgl hpl' hpa hpl
  obtain ⟨c0, c1, c2, c3⟩ := x0.c4
  obtain ⟨b0, b1, b2, b3, b4, b5, b6, b7⟩ := x1.c8
  have hV := HW.out
  obtain ⟨r1, r2, hr⟩ : ∃ r1 r2, M.peoR W H G P a 0 (es.map (·.s)) = (r1, r2) := ⟨_, _, rfl⟩
  have HR := Lib.hid hr
  rw [hr]
  clear hr
  unfold M.lostR at k
  cases hok : M.lostOk W H G P a 0 (es.map (·.s)) with
  | false =>
    rw [hok, if_neg (by decide)] at k
    obtain ⟨rfl, rfl⟩ : r1 = 0 ∧ r2 = 2 := by
      have := HR.out
      unfold M.peoR at this
      rw [hok, if_neg (by decide)] at this
      simp only [Prod.mk.injEq] at this
      omega
    go_enter Tryz.func23, Tryz.ntmps23
    go_wp2_with fail
    clear hV
    refine k.mono ?_
    rintro e w1 ⟨A1, c1', rfl, hS1, hb1⟩
    go_wp2_with fail
    go_ret2
    exact ⟨rfl, after_ hB hb1⟩
  | true =>
    rw [hok, if_pos rfl] at k
    obtain ⟨h1, rfl⟩ : M.total P (M.lost W H G a (M.ratio 0) (es.map (·.s))) = r1 ∧ r2 = 0 := by
      have := HR.out
      unfold M.peoR at this
      rw [hok, if_pos rfl] at this
      simp only [Prod.mk.injEq] at this
      exact ⟨this.1, this.2.symm⟩
    have HTV := Lib.hid (M.lostOk_tv hok).1
    have hll : (M.lost W H G a (M.ratio 0) (es.map (·.s))).length ≤ 100000 := Nat.le_trans (M.lost_len4 HTV.out) (by omega)
    have HIN := Lib.hid (M.lost_in (W := W) (H := H) (G := G) (a := a) (r := M.ratio 0) (l := es.map (·.s)))
    have H1 := Lib.hid h1
    clear h1 HR hok
    generalize M.lost W H G a (M.ratio 0) (es.map (·.s)) = ls at *
    go_enter Tryz.func23, Tryz.ntmps23
    go_wp2_with fail
    clear hV c0 c1 c2 c3 b0 b1 b2 b3 b4 b5 b6 b7
    refine k.mono ?_
    rintro e w1 ⟨A1, c1', rfl, hS1, hb1⟩
    simp only
    have B1 := after_ hB hb1
    obtain ⟨c0, c1, c2, c3⟩ := (x0.below hb1).c4
    go_wp2_with fail
    refine (tTotal_ok W H GA PA gc pc G P A1 _ ls w1 ((hg.below B1).more B1.size) ((hp.below B1).more B1.size) hS1 HTV.out hll HIN.out).mono ?_
    rintro e w2 ⟨rfl, hb2⟩
    rw [H1.out]
    go_wp2_with fail
    go_ret2
    exact ⟨rfl, after_ B1 hb2⟩
end Go.Proofs.YtohkbblfcjmmnaaGreatDoor
