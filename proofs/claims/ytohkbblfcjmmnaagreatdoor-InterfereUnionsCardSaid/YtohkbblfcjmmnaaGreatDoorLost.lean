/- Layer 10: At; layer 15: lost. -/
import Derived.Test.YtohkbblfcjmmnaaGreatDoorInt
namespace Go.Proofs.YtohkbblfcjmmnaaGreatDoor
open Go Go.RowKit
set_option maxRecDepth 100000

/-- Whether a terrain is valid and has a cell with an index. -/
def M.okI (W H : Int) (G P : List Int) (i : Int) : Bool := M.tvalid W H G P && M.isIn i 0 (W * H - 1)

set_option maxHeartbeats 8000000 in
theorem tAt_ok (W H : Int) (GA PA : Option Addr) (gc pc : Nat) (G P : List Int) (i : Nat) (w : World) (hg : Sl 1 icell w w.heap.size GA G) (hp : Sl 1 icell w w.heap.size PA P) (htv : M.tvalid W H G P = true) (hi : (i : Int) < W * H) :
    Calls Tryz.prog 32 #[tv W H GA PA G.length gc P.length pc, .int .i64 i] w fun e w' => e = .returned (.tuple #[cv (M.cx W i) (M.cy W i), .int .i64 0]) ∧ Below w.heap.size w w' := by
  obtain ⟨V, HW, x0, x1, hB, hs⟩ := boxes2 w #[.int .i64 W, .int .i64 H, .slice GA G.length gc, .slice PA P.length pc] 24 #[.int .i64 0, .int .i64 0] 60
  obtain ⟨r1, r2, r3, r4, -⟩ := M.tvalid_iff.1 htv
  obtain ⟨wh1, wh2⟩ := M.wh_le r1 r2
  obtain ⟨n, hn⟩ : ∃ n : Nat, W * H = n := ⟨(W * H).toNat, by omega⟩
  have hmul : W * H = (n : Int) := hn
  have HTV := Lib.hid htv
  have hIN : M.isIn (i : Int) 0 (n - 1) = true := M.isIn_iff.2 ⟨by omega, by omega⟩
  clear htv
  obtain ⟨c0, c1, c2, c3⟩ := x0.c4
  have hV := HW.out
  go_enter Tryz.func32, Tryz.ntmps32
  go_wp2_with fail
  clear hV c0 c1 c2 c3
  refine (tvalid_any W H GA PA gc pc G P V ((hg.below hB).more hB.size) ((hp.below hB).more hB.size) (by omega) (by omega)).mono ?_
  rintro e w1 ⟨rfl, hb1⟩
  rw [HTV.out]
  have B1 := after_ hB hb1
  obtain ⟨c0, c1, c2, c3⟩ := (x0.below hb1).c4
  go_wp2_with fail
  refine (within_any (i : Int) 0 (n - 1) w1).mono ?_
  rintro e w2 ⟨rfl, rfl⟩
  rw [hIN]
  go_wp2_with fail
  refine (cellAt_ok W H GA PA G.length gc P.length pc i w1 r1 (by omega)).mono ?_
  rintro e w3 ⟨rfl, hb3⟩
  have B3 := after_ B1 hb3
  have z := (x1.below hb1).below hb3
  obtain ⟨d0, d1⟩ := z.c2
  have f0 := z.frozen 0
  have f1 := z.frozen 1
  obtain ⟨z0, z1⟩ := ((z.set 0 (.int .i64 (M.cx W i))).set 1 (.int .i64 (M.cy W i))).c2
  go_wp2_with fail
  refine bodyPost_ret (v := .tuple #[cv (M.cx W i) (M.cy W i), .int .i64 0]) ?_ rfl ⟨rfl, ?_⟩
  · simp [results, Tryz.results32, go_sem, z0, z1]
  · exact (B3.setCell (p := ⟨w.heap.size + 1, 0, none⟩) (by dsimp only; omega) _).setCell (p := ⟨w.heap.size + 1, 1, none⟩) (by dsimp only; omega) _

/-- What lost answers. -/
def M.lost (W H : Int) (G : List Int) (a : St) (r : Int) (l : List St) : List Int := ((List.range (W * H).toNat).filter fun (i : Nat) => M.cov W G a (M.cx W i) (M.cy W i) && M.dist W G a r (M.cx W i) (M.cy W i) l).map fun (i : Nat) => (i : Int)
theorem M.lost_area (W H : Int) (G : List Int) (a : St) (r : Int) (l : List St) : (M.area W H G a).filter (fun x => M.dist W G a r (M.cx W x.toNat) (M.cy W x.toNat) l) = M.lost W H G a r l := by
  unfold M.area M.areaTo M.lost
  rw [List.filter_map, List.filter_filter]
  congr 1
  apply List.filter_congr
  intro i _
  simp [Function.comp, Bool.and_comm]
theorem M.lost_in {W H : Int} {G : List Int} {a : St} {r : Int} {l : List St} : ∀ x ∈ M.lost W H G a r l, 0 ≤ x ∧ x < W * H := by
  intro x hx
  unfold M.lost at hx
  obtain ⟨i, hi, rfl⟩ := List.mem_map.1 hx
  have := List.mem_range.1 (List.mem_filter.1 hi).1
  omega
theorem M.lost_len {W H : Int} {G : List Int} {a : St} {r : Int} {l : List St} : (M.lost W H G a r l).length ≤ (W * H).toNat := by
  unfold M.lost
  rw [List.length_map]
  have := List.length_filter_le (fun (i : Nat) => M.cov W G a (M.cx W i) (M.cy W i) && M.dist W G a r (M.cx W i) (M.cy W i) l) (List.range (W * H).toNat)
  simpa using this
def M.lostOk (W H : Int) (G P : List Int) (a : St) (o : Int) (l : List St) : Bool := M.okOff o && l.all (M.okS W H G P) && M.okS W H G P a
def M.lostR (W H : Int) (G P : List Int) (a : St) (o : Int) (l : List St) : List Int × Int := if M.lostOk W H G P a o l = true then (M.lost W H G a (M.ratio o) l, 0) else ([], 2)
theorem RetL.none_ {w w' : World} {l : List Int} {e : Int} (h : (l, e) = ([], 2)) (hB : Below w.heap.size w w') : RetL 1 icell w l e (.returned (.tuple #[.slice Option.none 0 0, .int .i64 2])) w' := by
  obtain ⟨rfl, rfl⟩ := Prod.mk.inj h
  exact ⟨Option.none, 0, rfl, Sl.nil_, hB⟩

set_option maxHeartbeats 16000000 in
theorem lost_any (W H : Int) (GA PA : Option Addr) (gc pc : Nat) (G P : List Int) (a : St) (A : Option Addr) (c : Nat) (o : Int) (LA : Option Addr) (lc : Nat) (es : List SE) (w : World) (ht : Tab w) (hg : Sl 1 icell w w.heap.size GA G) (hp : Sl 1 icell w w.heap.size PA P) (hS : Sl 1 icell w w.heap.size A a.pat) (hL : Sl 8 secell w w.heap.size LA es) (hP : Pats w es)
    (hl : es.length ≤ 1000) (hgl : G.length ≤ 9223372036854775806) (hpl' : P.length ≤ 9223372036854775806) (hpa : a.pat.length ≤ 1000) (hpl : ∀ e ∈ es, e.s.pat.length ≤ 1000) :
    Calls Tryz.prog 42 #[tv W H GA PA G.length gc P.length pc, stv a A c, .int .i64 o, .slice LA es.length lc] w (RetL 1 icell w (M.lostR W H G P a o (es.map (·.s))).1 (M.lostR W H G P a o (es.map (·.s))).2) := by
  obtain ⟨V, HW, x0, x1, hB, -⟩ := boxes2 w #[.int .i64 W, .int .i64 H, .slice GA G.length gc, .slice PA P.length pc] 24 (stc a A c) 28
  obtain ⟨i0, hi, hz0, hz1, hz2⟩ := info_parts intInfo
  have Hi := Lib.hid hi; have Hz0 := Lib.hid hz0; have Hz1 := Lib.hid hz1; have Hz2 := Lib.hid hz2
  clear hi hz0 hz1 hz2
  obtain ⟨rl, er, hr⟩ : ∃ rl er, M.lostR W H G P a o (es.map (·.s)) = (rl, er) := ⟨_, _, rfl⟩
  have HNO : Hid (M.lostOk W H G P a o (es.map (·.s)) = false → (rl, er) = ([], 2)) := Lib.hid (fun h => by rw [← hr]; unfold M.lostR; rw [h]; rfl)
  have HYES : Hid (M.lostOk W H G P a o (es.map (·.s)) = true → (rl, er) = (M.lost W H G a (M.ratio o) (es.map (·.s)), 0)) := Lib.hid (fun h => by rw [← hr]; unfold M.lostR; rw [h]; rfl)
  rw [hr]
  clear hr
  have HLO : Hid (M.lostOk W H G P a o (es.map (·.s)) = (M.okOff o && (es.map (·.s)).all (M.okS W H G P) && M.okS W H G P a)) := Lib.hid rfl
  cases hoff : M.okOff o with
  | false =>
    have HF := Lib.hid (HNO.out (by rw [HLO.out, hoff]; rfl))
    go_enter Tryz.func42, Tryz.ntmps42
    go_wp2_with fail
    rw [HW.out]
    refine (ratio_no o V hoff).mono ?_
    rintro e w1 ⟨rfl, rfl⟩
    go_wp2_with fail
    go_ret2
    exact RetL.none_ HF.out hB
  | true =>
    have HOFF := Lib.hid hoff
    go_enter Tryz.func42, Tryz.ntmps42
    go_wp2_with fail
    rw [HW.out]
    refine (ratio_ok o V hoff).mono ?_
    rintro e w1 ⟨rfl, rfl⟩
    clear hoff
    obtain ⟨ro, HRO⟩ : ∃ ro, Hid (M.ratio o = ro) := ⟨_, Lib.hid rfl⟩
    rw [HRO.out]
    rw [HRO.out] at HYES
    go_wp2_with fail
    go_loopw [13, 14, 32] (fun _ _ i wr => ∃ k : Nat, k ≤ es.length ∧ i = .int .i64 k ∧ Below w.heap.size w wr ∧ Below V.heap.size V wr ∧ Hid (∀ j (hj : j < es.length), j < k → M.okS W H G P es[j].s = true)) (fun _ _ i _ => es.length - (intOf i).toNat)
    case atStart => exact ⟨0, Nat.zero_le _, rfl, hB, Below.refl _ _, Lib.hid (fun j _ h => absurd h (by omega))⟩
    case round =>
      obtain ⟨k, hk, rfl, hBw, hBr, HN⟩ := hrel
      by_cases hlt : k < es.length
      · obtain ⟨la, rfl, hlb, a0, a1, a2, a3, a4, a5, a6, a7⟩ := (hL.below hBw).st8 hlt
        have hSk := (hP.below hBw).at_ hlt
        have hpk := hpl _ (List.getElem_mem hlt)
        have HK1 : Hid (M.okS W H G P es[k].s = false → (rl, er) = ([], 2)) := Lib.hid (fun h => HNO.out (by
          rw [HLO.out]
          have h2 : ((es.map (·.s)).all (M.okS W H G P)) = false := by
            rw [List.all_eq_false]
            exact ⟨es[k].s, List.mem_map.2 ⟨_, List.getElem_mem hlt, rfl⟩, by rw [h]; decide⟩
          rw [h2, Bool.and_false, Bool.false_and]))
        have HN2 : Hid (M.okS W H G P es[k].s = true → ∀ j (hj : j < es.length), j < k + 1 → M.okS W H G P es[j].s = true) := Lib.hid (fun h j h1 h3 => by
          by_cases e : j = k
          · subst e; exact h
          · exact HN.out j h1 (by omega))
        generalize es[k] = ek at *
        obtain ⟨s, A', c'⟩ := ek
        simp only at a0 a1 a2 a3 a4 a5 a6 a7 hSk hpk HK1 HN2
        obtain ⟨U, HU, u0, hBU, -⟩ := boxes1 wr (stc s A' c') 28
        obtain ⟨b0, b1, b2, b3, b4, b5, b6, b7⟩ := u0.c8
        have hU := HU.out
        have BU := after_ hBw hBU
        obtain ⟨c0, c1, c2, c3⟩ := ((x0.below hBr).below hBU).c4
        go_wp2_with fail
        clear hU
        refine (icheck_any W H GA PA gc pc G P s A' c' U ((hg.below BU).more BU.size) ((hp.below BU).more BU.size) ((hSk.below hBU).more hBU.size) hgl hpl' (by omega)).mono ?_
        rintro e w2 ⟨rfl, hb2⟩
        have B2 := after_ BU hb2
        cases hv : M.okS W H G P s with
        | false =>
          have HF := Lib.hid (HK1.out hv)
          simp only [Bool.false_eq_true, if_false]
          go_wp2_with fail
          go_ret2
          exact RetL.none_ HF.out B2
        | true =>
          have HN3 := Lib.hid (HN2.out hv)
          simp only [if_true]
          go_wp2_with fail
          go_roundw
          case rel => exact ⟨k + 1, hlt, by go_num, B2, after_ (after_ hBr hBU) hb2, HN3⟩
          case measure => simp [intOf]; omega
      · have HALL : Hid (∀ j (hj : j < es.length), M.okS W H G P es[j].s = true) := Lib.hid (fun j hj => HN.out j hj (by omega))
        have HAL : Hid (((es.map (·.s)).all (M.okS W H G P)) = true) := Lib.hid (by
          rw [List.all_eq_true]
          intro s hs
          obtain ⟨e, he, rfl⟩ := List.mem_map.1 hs
          obtain ⟨j, hj, rfl⟩ := List.getElem_of_mem he
          exact HALL.out j hj)
        clear HN
        have y0 := x0.below hBr
        have y1 := x1.below hBr
        obtain ⟨c0, c1, c2, c3⟩ := y0.c4
        obtain ⟨b0, b1, b2, b3, b4, b5, b6, b7⟩ := y1.c8
        cases hoa : M.okS W H G P a with
        | false =>
          have HF := Lib.hid (HNO.out (by rw [HLO.out, hoa, Bool.and_false]))
          go_wp2_with fail
          refine (area_no W H GA PA gc pc G P a A c wr ((hg.below hBw).more hBw.size) ((hp.below hBw).more hBw.size) ((hS.below hBw).more hBw.size) hgl hpl' hpa hoa).mono ?_
          rintro e w2 ⟨rfl, hb2⟩
          go_wp2_with fail
          go_ret2
          exact RetL.none_ HF.out (after_ hBw hb2)
        | true =>
          have HF := HYES.out (by rw [HLO.out, HOFF.out, HAL.out, hoa]; rfl)
          obtain ⟨rfl, rfl⟩ := Prod.mk.inj HF
          have HOA := Lib.hid hoa
          obtain ⟨-, htv, -, -⟩ := M.okS_iff.1 hoa
          obtain ⟨r1, r2, -⟩ := M.tvalid_iff.1 htv
          obtain ⟨wh1, wh2⟩ := M.wh_le r1 r2
          have HTV := Lib.hid htv
          have hal : (M.area W H G a).length ≤ 4096 := Nat.le_trans M.area_len (by omega)
          have HIN := Lib.hid (M.area_in (W := W) (H := H) (G := G) (s := a))
          have HLA := Lib.hid (M.lost_area W H G a ro (es.map (·.s)))
          clear htv HF HYES HNO HLO
          go_wp2_with fail
          clear c0 c1 c2 c3 b0 b1 b2 b3 b4 b5 b6 b7
          refine (area_ok W H GA PA gc pc G P a A c wr (ht.kept hBw) ((hg.below hBw).more hBw.size) ((hp.below hBw).more hBw.size) ((hS.below hBw).more hBw.size) hoa).mono ?_
          rintro e w2 ⟨A2, c2, rfl, hS2, hb2⟩
          have B2 := after_ hBw hb2
          have z0 := y0.below hb2
          have z1 := y1.below hb2
          clear hoa
          generalize M.area W H G a = ar at *
          go_wp2_with fail
          go_loopw [16, 18, 19, 20, 21, 54] (fun out _ _ _ _ i wq => ∃ (k : Nat) (os : List Int), k ≤ ar.length ∧ i = .int .i64 k ∧ Below w.heap.size w wq ∧ Below w2.heap.size w2 wq ∧ os.length ≤ k ∧ wq.ownsRow w2.heap.size 3 1 out os.length (flat 1 icell os) ∧ Hid (os = (ar.take k).filter fun x => M.dist W G a ro (M.cx W x.toNat) (M.cy W x.toNat) (es.map (·.s)))) (fun _ _ _ _ _ i _ => ar.length - (intOf i).toNat)
          case atStart => exact ⟨0, [], Nat.zero_le _, rfl, B2, Below.refl _ _, by simp, own_nil _ _ _ _ _, Lib.hid rfl⟩
          case round =>
            obtain ⟨m, os, hm, rfl, hBq, hB2q, hol, hown, HO⟩ := hrel
            by_cases hme : m < ar.length
            · have hxi := HIN.out ar[m] (List.getElem_mem hme)
              obtain ⟨i, hxe⟩ : ∃ i : Nat, ar[m] = (i : Int) := ⟨ar[m].toNat, by omega⟩
              rw [hxe] at hxi
              have HT : Hid ((ar.take (m + 1)).filter (fun x => M.dist W G a ro (M.cx W x.toNat) (M.cy W x.toNat) (es.map (·.s))) = (ar.take m).filter (fun x => M.dist W G a ro (M.cx W x.toNat) (M.cy W x.toNat) (es.map (·.s))) ++ if M.dist W G a ro (M.cx W i) (M.cy W i) (es.map (·.s)) then [(i : Int)] else []) := Lib.hid (by
                rw [List.take_succ_eq_append_getElem hme, List.filter_append, hxe]
                congr 1
                by_cases h : M.dist W G a ro (M.cx W i) (M.cy W i) (es.map (·.s)) = true
                · simp [h]
                · simp [h])
              obtain ⟨aa, rfl, hab, a0⟩ := ((hS2.below hB2q).more hB2q.size).one_at hme
              simp only [icell] at a0
              rw [hxe] at a0
              clear hxe
              obtain ⟨hcx, hcy⟩ := M.cell_in (W := W) (H := H) (i := i) (by omega) hxi.2
              have hokA := M.okS_F HOA.out hcx.1 hcx.2 hcy.1 hcy.2
              have hokB : ∀ e ∈ es, M.okF W H G P e.s (M.cx W i) (M.cy W i) = true := fun e he => by
                obtain ⟨j, hj, rfl⟩ := List.getElem_of_mem he
                exact M.okS_F (HALL.out j hj) hcx.1 hcx.2 hcy.1 hcy.2
              have HKA := Lib.hid hokA
              have HKB := Lib.hid hokB
              clear hokA hokB
              obtain ⟨c0, c1, c2, c3⟩ := (z0.below hB2q).c4
              go_wp2_with fail
              clear c0 c1 c2 c3
              refine (tAt_ok W H GA PA gc pc G P i _ ((hg.below hBq).more hBq.size) ((hp.below hBq).more hBq.size) HTV.out hxi.2).mono ?_
              rintro e w5 ⟨rfl, hb5⟩
              have B5 := after_ hBq hb5
              have B25 := after_ hB2q hb5
              obtain ⟨X, HX, u0, hbX, -⟩ := boxes1 w5 #[.int .i64 (M.cx W i), .int .i64 (M.cy W i)] 60
              have BX := after_ B5 hbX
              have B2X := after_ B25 hbX
              obtain ⟨c0, c1, c2, c3⟩ := (z0.below B2X).c4
              obtain ⟨b0, b1, b2, b3, b4, b5, b6, b7⟩ := (z1.below B2X).c8
              obtain ⟨d0, d1⟩ := u0.c2
              have hX := HX.out
              go_wp2_with fail
              clear hX c0 c1 c2 c3 b0 b1 b2 b3 b4 b5 b6 b7 d0 d1 a0
              refine (disturbed_ok W H GA PA gc pc G P a A c ro (M.cx W i) (M.cy W i) LA lc es X (ht.kept BX) ((hg.below BX).more BX.size) ((hp.below BX).more BX.size) ((hS.below BX).more BX.size) ((hL.below BX).more BX.size) (hP.below BX) hl HKA.out HKB.out).mono ?_
              rintro e w6 ⟨rfl, hb6⟩
              have B6 := after_ BX hb6
              have B26 := after_ B2X hb6
              have hown6 := own_below (own_below (own_below hown hb5) hbX) hb6
              cases hd : M.dist W G a ro (M.cx W i) (M.cy W i) (es.map (·.s)) with
              | false =>
                have HT2 := Lib.hid (HT.out.trans (by rw [hd]; simp : _ = (ar.take m).filter (fun x => M.dist W G a ro (M.cx W x.toNat) (M.cy W x.toNat) (es.map (·.s)))))
                go_wp2_with fail
                go_roundw
                case rel => exact ⟨m + 1, os, hme, by go_num, B6, B26, by omega, hown6, Lib.hid (by rw [HT2.out]; exact HO.out)⟩
                case measure => simp [intOf]; omega
              | true =>
                have HT2 := Lib.hid (HT.out.trans (by rw [hd]; simp : _ = (ar.take m).filter (fun x => M.dist W G a ro (M.cx W x.toNat) (M.cy W x.toNat) (es.map (·.s))) ++ [(i : Int)]))
                go_wp2_with (at_builtin; refine wpList_push (w0 := w2) (cell := icell) (y := (i : Int)) rfl _ _ _ rfl w2.heap.size w2.heap.size 3 i0 _ 8 Tryz.underlying22 Hi.out Hz0.out Hz1.out Hz2.out rfl (by decide) _ _ _ rfl hown6 _ _ rfl _ rfl (fun _ => rfl) (by unfold maxLen; omega) (by omega) B26.size (Nat.le_refl _) B26 ?_; intro v' w' hown' hb' _)
                go_roundw
                case rel => exact ⟨m + 1, os ++ [(i : Int)], hme, by go_num, B2.trans (hb'.mono B2.size), hb', by simp; omega, by rw [List.length_append]; exact hown', Lib.hid (by rw [HT2.out, HO.out])⟩
                case measure => simp [intOf]; omega
            · have HO2 : Hid (os = M.lost W H G a ro (es.map (·.s))) := Lib.hid (by rw [HO.out, List.take_of_length_le (by omega)]; exact HLA.out)
              obtain ⟨A9, c9, rfl, hS9⟩ := own_slice (by decide) hown
              go_wp2_with fail
              go_ret2
              exact ⟨A9, c9, by rw [← HO2.out]; rfl, by rw [← HO2.out]; exact hS9, hBq⟩
end Go.Proofs.YtohkbblfcjmmnaaGreatDoor
