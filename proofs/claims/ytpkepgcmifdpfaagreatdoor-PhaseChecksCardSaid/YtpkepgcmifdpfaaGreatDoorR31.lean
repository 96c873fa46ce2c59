/- A bundle of texts: Ph3, Cont, Ph4, Ph5, Ph6, Ph7, Lp1, Rp1, Rp2. -/
import Derived.Test.YtpkepgcmifdpfaaGreatDoorR28
import Derived.Test.YtpkepgcmifdpfaaGreatDoorR29
import Derived.Test.YtpkepgcmifdpfaaGreatDoorR30
import Derived.Maps.OwnSet
import Derived.Maps.RangeWalk
import Derived.Test.YtpkepgcmifdpfaaGreatDoorR19
import Derived.Test.YtpkepgcmifdpfaaGreatDoorR04
section
namespace Go.Proofs.YtpkepgcmifdpfaaGreatDoor
open Go Go.RowKit Go.Maps
set_option maxRecDepth 100000
def M.zeroMv : Mv := ⟨0, 0, 0, 0, 0, 0⟩
def M.mvd (l : List Mv) (st : Int) : Mv := (M.mvAt l st).getD M.zeroMv
theorem zeroMove (w : World) : (zeroValue 66).run Tryz.prog w = .ok (mvv M.zeroMv) w := by kernel_rfl
theorem MvD.look {W : World} {bv nv : Nat} {Dv : DataW Value} {l : List Mv} (hM : MvD Dv l l.length) (h : W.ownsMap Tryz.prog 3 rawE bv nv Dv) {st : Int} (hs : M.W64 st) :
    (Instr.lookup 108 (.map (some bv)) (.int .i64 st) true).run Tryz.prog W = .ok (.tuple #[mvv (M.mvd l st), .bool (M.mvAt l st).isSome]) W ∧ (Instr.lookup 108 (.map (some bv)) (.int .i64 st) false).run Tryz.prog W = .ok (mvv (M.mvd l st)) W := by
  have hk := Maps.keyOf_int_mk (P := Tryz.prog) Tryz.underlying3 (wf64 hs)
  obtain ⟨v1, p1, h1, e1⟩ := h.look_ok (Maps.int_keyed Tryz.underlying3) Tryz.underlying108 (zeroMove W) (zd := .held (mvv M.zeroMv)) (zp := []) rfl hk
  obtain ⟨v2, p2, h2, e2⟩ := h.lookup (Maps.int_keyed Tryz.underlying3) Tryz.underlying108 (zeroMove W) (zd := .held (mvv M.zeroMv)) (zp := []) rfl hk
  have key : Maps.has Dv (.int .i64 st) = (M.mvAt l st).isSome ∧ Dv.atKey (.int .i64 st) (.held (mvv M.zeroMv)) = .held (mvv (M.mvd l st)) := by
    unfold M.mvd
    cases e : M.mvAt l st with
    | none =>
      have hn := hM.miss st (fun i hi _ => M.mvAt_none e _ (List.getElem_mem hi))
      exact ⟨hn, atKey_of_not_has hn _⟩
    | some m =>
      obtain ⟨h3, rfl⟩ := M.mvAt_some e
      obtain ⟨i, hi, rfl⟩ := List.getElem_of_mem h3
      have h4 := hM.hit i hi hi
      exact ⟨h4.2, h4.1 _⟩
  have g : ∀ {v : Value} {p : List MemPlace}, rawE v = some (Dv.atKey (.int .i64 st) (.held (mvv M.zeroMv)), p) → v = mvv (M.mvd l st) := fun {v p} e => by
    rw [key.2] at e
    have := Option.some.inj e
    simpa using congrArg Prod.fst this
  rw [g e1, key.1] at h1
  rw [g e2] at h2
  exact ⟨h1, h2⟩
theorem Sl.int1 {w : World} {B : Nat} {A : Option Addr} {xs : List Int} {k : Nat} (h : Sl 1 icell w B A xs) (hk : k < xs.length) : ∃ ad, A = some ad ∧ (ad.add k).block < B ∧ w.cell? (ad.add k) = some (.int .i64 xs[k]) := by
  obtain ⟨ad, e, hb, hc⟩ := h.int_at hk
  exact ⟨ad, e, by rw [add_block]; exact hb, hc⟩
theorem moveInfo : (Tryz.prog.info? 66).map (fun i => (i.zero, i.size, i.bytes)) = some (some (mvv M.zeroMv), 6, 48) := by kernel_rfl
theorem intInfoP : (Tryz.prog.info? 3).map (fun i => (i.zero, i.size, i.bytes)) = some (some (.int .i64 0), 1, 8) := by kernel_rfl
set_option maxHeartbeats 32000000 in
theorem pick_ok (b : Nat) (a : TrA) (t : Tr) (SA : Option Addr) (sc : Nat) (ss : List Int) (w : World) (h : MD w b a t) (hS : Sl 1 icell w w.heap.size SA ss) (hsl : ss.length ≤ 1000000) (hw : ∀ x ∈ ss, M.W64 x) :
    Calls Tryz.prog 57 #[.pointer (some ⟨b, 0, none⟩), .slice SA ss.length sc] w fun e w' => ∃ A c, e = .returned (.slice A (M.pick t.l ss).length c) ∧ Sl 6 mvcell w' w'.heap.size A (M.pick t.l ss) ∧ Below w.heap.size w w' := by
  obtain ⟨i0, hi, hz0, hz1, hz2⟩ := info_parts intInfoP
  have Hi := Lib.hid hi; have Hz0 := Lib.hid hz0; have Hz1 := Lib.hid hz1; have Hz2 := Lib.hid hz2
  obtain ⟨im, him, hzm0, hzm1, hzm2⟩ := info_parts moveInfo
  have Him := Lib.hid him; have Hzm0 := Lib.hid hzm0; have Hzm1 := Lib.hid hzm1; have Hzm2 := Lib.hid hzm2
  clear hi hz0 hz1 hz2 him hzm0 hzm1 hzm2
  obtain ⟨hgood, tr, bv, nv, bs, ns, Dv, Ds, xb, hov, hMv, hos, hPs⟩ := h
  have HG := Lib.hid hgood
  have HM := Lib.hid hMv
  have HW := Lib.hid hw
  have hpw := Lib.hid hgood.1.1.2.2
  have hbw := xb.lt
  clear hgood tr hMv hos hPs hw
  go_enter Tryz.func57, Tryz.ntmps57
  go_wp2_with fail
  go_loopw [5, 7, 8, 9, 15] (fun v _ _ _ i wr => ∃ (k : Nat), k ≤ ss.length ∧ i = .int .i64 k ∧ Below w.heap.size w wr ∧ wr.ownsRow w.heap.size 3 1 v (M.own t.l (ss.take k)).length (flat 1 icell (M.own t.l (ss.take k)))) (fun _ _ _ _ i _ => ss.length - (intOf i).toNat)
  case atStart => exact ⟨0, Nat.zero_le _, rfl, Below.refl _ _, own_nil _ _ _ 1 icell⟩
  case round =>
    obtain ⟨k, hk, rfl, hBr, hown⟩ := hrel
    by_cases hlt : k < ss.length
    · obtain ⟨la, hla, hlb, a0⟩ := ((hS.below hBr).more (B' := wr.heap.size) hBr.size).int1 hlt
      have x0 : (0 : Int) ≤ (k : Int) := by omega
      have y0 : (k : Int) < (ss.length : Int) := by omega
      have q0 : decide ((k : Int) < (ss.length : Int)) = true := decide_eq_true y0
      have HON : Hid (M.own t.l (ss.take (k + 1)) = M.own t.l (ss.take k) ++ (if (M.mvAt t.l ss[k]).isSome then [ss[k]] else [])) := Lib.hid (by rw [List.take_succ_eq_append_getElem hlt, M.own_snoc])
      have hxw := HW.out ss[k] (List.getElem_mem hlt)
      have hovr := hov.kept (below_grown hBr) (by simp)
      have hlk := (HM.out.look hovr hxw).1
      have e6 := (xb.below hBr).cell 6 rfl
      have le := (xb.below hBr).lt
      have hol : (M.own t.l (ss.take k)).length ≤ k := Nat.le_trans (M.own_len _ _) (by simp; omega)
      generalize M.own t.l (ss.take k) = os at *
      generalize M.mvd t.l ss[k] = md at *
      obtain ⟨X, HX, u0, hbX, -⟩ := boxes1 wr (mvc md) 66
      have BX := after_ hBr hbX
      have hownX := own_below hown hbX
      have hX := HX.out
      subst hla
      cases hsm : (M.mvAt t.l ss[k]).isSome with
      | false =>
        rw [hsm] at hlk HON
        have HON2 : Hid (M.own t.l (ss.take (k + 1)) = os) := Lib.hid (by rw [HON.out]; simp)
        clear HON hsm
        generalize ss[k] = st at *
        go_wp2_with fail
        go_roundw
        case rel => exact ⟨k + 1, hlt, by go_num, BX, by rw [HON2.out]; exact hownX⟩
        case measure => simp [intOf]; omega
      | true =>
        rw [hsm] at hlk HON
        have HON2 : Hid (M.own t.l (ss.take (k + 1)) = os ++ [ss[k]]) := Lib.hid (by rw [HON.out]; simp)
        clear HON hsm
        generalize ss[k] = st at *
        go_wp2_with (at_builtin; go_loud (
          refine wpList_push (w0 := w) (cell := icell) rfl _ _ 29 rfl w.heap.size w.heap.size 3 i0 _ 8 Tryz.underlying29 Hi.out Hz0.out Hz1.out Hz2.out rfl (by decide) _ os.length os st rfl hownX _ _ rfl 1 rfl (fun j => rfl) (by unfold maxLen; omega) (by omega) BX.size (Nat.le_refl _) BX ?_
          intro v7 w7 hown7 hb7 hg7))
        go_roundw
        case rel => exact ⟨k + 1, hlt, by go_num, hb7, by rw [HON2.out, List.length_append]; exact hown7⟩
        case measure => simp [intOf]; omega
    · obtain rfl : k = ss.length := by omega
      have q0 : decide ((ss.length : Int) < (ss.length : Int)) = false := decide_eq_false (by omega)
      rw [List.take_length] at hown
      have hol := M.own_len t.l ss
      have HOW : Hid (∀ x ∈ M.own t.l ss, M.W64 x ∧ ∃ m, M.mvAt t.l x = some m) := Lib.hid (fun x hx => ⟨HW.out x (List.mem_filter.1 hx).1, Option.isSome_iff_exists.1 (List.mem_filter.1 hx).2⟩)
      have kS := sortP_any hown (by omega)
      have HP : Hid (∀ cs : List Int, cs = Lib.compact (M.isort (M.own t.l ss)) → M.picked t.l cs = M.pick t.l ss ∧ ∀ x ∈ cs, x ∈ M.own t.l ss) := Lib.hid (fun cs hc => by
        obtain ⟨r1, r2⟩ := compact_rise (M.isort_le (M.own t.l ss))
        have r3 : ∀ x, x ∈ cs ↔ x ∈ M.own t.l ss := fun x => by rw [hc, r2 x]; exact (M.isort_perm _).mem_iff
        exact ⟨M.picked_eq hpw.out (hc ▸ r1) r3, fun x hx => (r3 x).1 hx⟩)
      have hcl := Lib.compact_length_le (M.isort (M.own t.l ss))
      rw [M.isort_len] at hcl
      go_wp2_with fail
      refine kS.mono ?_
      rintro e w2 ⟨rfl, own2, hg2⟩
      clear kS
      generalize M.own t.l ss = os at *
      have B2 : Below w.heap.size w w2 := hBr.grown hg2 hBr.size (fun g e => (hown.lt g e).1)
      have kC := compP_any own2 (by omega)
      have hol2 : ∀ g, _root_.Go.Value.ownBlock _ = some g → w.heap.size ≤ g := fun g e => (hown.lt g e).1
      go_wp2_with fail
      refine kC.mono ?_
      rintro e w3 ⟨CA, cc, rfl, hCS, hg3⟩
      clear kC
      have B3 : Below w.heap.size w w3 := B2.grown hg3 B2.size (fun g e => hol2 g e)
      obtain ⟨cs, hcs⟩ : ∃ cs, Lib.compact (M.isort os) = cs := ⟨_, rfl⟩
      obtain ⟨hp1, hp2⟩ := HP.out cs hcs.symm
      rw [hcs] at hCS hcl ⊢
      have HP1 := Lib.hid hp1
      have HP2 := Lib.hid hp2
      clear hcs hp1 hp2 HP hol2 hown own2 hg2 hg3
      have hcl2 : cs.length ≤ 1000000 := by omega
      go_wp2_with fail
      go_loopw [10, 12, 39] (fun v _ i wr => ∃ (k : Nat), k ≤ cs.length ∧ i = .int .i64 k ∧ Below w3.heap.size w3 wr ∧ wr.ownsRow w3.heap.size 66 6 v k (flat 6 mvcell (M.picked t.l (cs.take k)))) (fun _ _ i _ => cs.length - (intOf i).toNat)
      case atStart => exact ⟨0, Nat.zero_le _, rfl, Below.refl _ _, own_nil _ _ _ 6 mvcell⟩
      case round =>
        obtain ⟨k, hk, rfl, hBr3, hown⟩ := hrel
        have hBW := B3.trans (hBr3.mono B3.size)
        by_cases hlt : k < cs.length
        · obtain ⟨la2, hla2, hlb2, a2⟩ := ((hCS.below hBr3).more (B' := _) hBr3.size).int1 hlt
          have x0 : (0 : Int) ≤ (k : Int) := by omega
          have y0 : (k : Int) < (cs.length : Int) := by omega
          have q0 : decide ((k : Int) < (cs.length : Int)) = true := decide_eq_true y0
          obtain ⟨hxw, m, hm⟩ := HOW.out cs[k] (HP2.out _ (List.getElem_mem hlt))
          have hlk := (HM.out.look (hov.kept (below_grown hBW) (by simp)) hxw).2
          have hmd : M.mvd t.l cs[k] = m := by unfold M.mvd; rw [hm]; rfl
          rw [hmd] at hlk
          have HPK := Lib.hid (M.picked_take hlt hm)
          have e6 := (xb.below hBW).cell 6 rfl
          have le := (xb.below hBW).lt
          clear hm hmd
          generalize cs[k] = st at *
          generalize M.picked t.l (cs.take k) = pk at *
          subst hla2
          go_wp2_with (at_builtin; go_loud (
            refine wpList_push (w0 := w3) (cell := mvcell) rfl _ _ 23 rfl w3.heap.size w3.heap.size 66 im _ 48 Tryz.underlying23 Him.out Hzm0.out Hzm1.out Hzm2.out rfl (by decide) _ k pk m rfl hown _ _ rfl 1 rfl (fun j => mv_one m j) (by unfold maxLen; omega) (by omega) hBr3.size (Nat.le_refl _) hBr3 ?_
            intro v7 w7 hown7 hb7 hg7))
          go_roundw
          case rel => exact ⟨k + 1, hlt, by go_num, hb7, by rw [HPK.out]; exact hown7⟩
          case measure => simp [intOf]; omega
        · obtain rfl : k = cs.length := by omega
          have q1 : decide ((cs.length : Int) < (cs.length : Int)) = false := decide_eq_false (by omega)
          rw [List.take_length, HP1.out] at hown
          go_wp2_with fail
          go_ret
          obtain ⟨A9, c9, hv9, hS9⟩ := own_slice (by decide) hown
          exact ⟨A9, c9, congrArg Ending.returned hv9, hS9, hBW⟩
end Go.Proofs.YtpkepgcmifdpfaaGreatDoor
end

section
namespace Go.Proofs.YtpkepgcmifdpfaaGreatDoor
open Go Go.RowKit
set_option maxRecDepth 100000
set_option maxHeartbeats 8000000 in
theorem indexP_ok (A : Option Addr) (c B : Nat) (xs : List Int) (v : Int) (w : World) (h : Sl 1 icell w B A xs) (hl : xs.length ≤ 1000000000) :
    Calls Tryz.prog 105 #[.slice A xs.length c, .int .i64 v] w fun e w' => (∃ i : Int, e = .returned (.int .i64 i) ∧ ((v ∈ xs ∧ 0 ≤ i) ∨ (v ∉ xs ∧ i < 0))) ∧ w' = w := by
  have HL := Lib.hid hl
  go_enter Tryz.func105, Tryz.ntmps105
  go_wp2_with fail
  clear hl
  go_loopw [5, 8] (fun _ i wr => ∃ k : Nat, k ≤ xs.length ∧ i = .int .i64 k ∧ wr = w ∧ Hid (∀ j (hj : j < xs.length), j < k → xs[j] ≠ v)) (fun _ i _ => xs.length - (intOf i).toNat)
  case atStart => exact ⟨0, Nat.zero_le _, rfl, rfl, Lib.hid (fun j _ h => absurd h (by omega))⟩
  case round =>
    obtain ⟨k, hk, rfl, rfl, HN⟩ := hrel
    by_cases hlt : k < xs.length
    · obtain ⟨la, hla, hlb, a0⟩ := h.int1 hlt
      have x0 : (0 : Int) ≤ (k : Int) := by omega
      have y0 : (k : Int) < (xs.length : Int) := by omega
      have q0 : decide ((k : Int) < (xs.length : Int)) = true := decide_eq_true y0
      by_cases he : xs[k] = v
      · have HM : Hid (v ∈ xs) := Lib.hid (he ▸ List.getElem_mem hlt)
        have q1 : (v == xs[k]) = true := by simp [he]
        rw [he] at a0
        clear he q1 HN
        subst hla
        go_wp2_with fail
        go_ret
        exact ⟨⟨_, rfl, .inl ⟨HM.out, by omega⟩⟩, rfl⟩
      · have HE : Hid (∀ j (hj : j < xs.length), j < k + 1 → xs[j] ≠ v) := Lib.hid (fun j hj h => by
          by_cases e : j = k
          · subst e; exact he
          · exact HN.out j hj (by omega))
        have q1 : (v == xs[k]) = false := by simp; exact fun e => he e.symm
        clear he HN
        generalize xs[k] = y at *
        have HL2 := HL.out
        subst hla
        go_wp2_with fail
        go_roundw
        case rel => exact ⟨k + 1, hlt, by go_num, trivial, HE⟩
        case measure => simp [intOf]; omega
    · obtain rfl : k = xs.length := by omega
      have q0 : decide ((xs.length : Int) < (xs.length : Int)) = false := decide_eq_false (by omega)
      have HM : Hid (v ∉ xs) := Lib.hid (fun hm => by
        obtain ⟨j, hj, e⟩ := List.getElem_of_mem hm
        exact HN.out j hj hj e)
      go_wp2_with fail
      go_ret
      exact ⟨⟨-1, rfl, .inr ⟨HM.out, by omega⟩⟩, rfl⟩
theorem containsP_ok (A : Option Addr) (c B : Nat) (xs : List Int) (v : Int) (w : World) (h : Sl 1 icell w B A xs) (hl : xs.length ≤ 1000000000) (r : Bool) (hr : r = true ↔ v ∈ xs) :
    Calls Tryz.prog 74 #[.slice A xs.length c, .int .i64 v] w fun e w' => e = .returned (.bool r) ∧ w' = w := by
  have kI := indexP_ok A c B xs v w h hl
  have HR := Lib.hid hr
  clear hr hl h
  go_enter Tryz.func74, Tryz.ntmps74
  go_wp2_with fail
  refine kI.mono ?_
  rintro e w' ⟨⟨i, rfl, hi⟩, rfl⟩
  clear kI
  have HE : Hid (decide (i ≥ 0) = r) := Lib.hid (by
    rw [Bool.eq_iff_iff, decide_eq_true_eq, HR.out]
    rcases hi with ⟨h1, h2⟩ | ⟨h1, h2⟩
    · exact ⟨fun _ => h1, fun _ => h2⟩
    · exact ⟨fun h => by omega, fun h => absurd h h1⟩)
  clear hi
  go_wp2_with fail
  go_ret
  exact ⟨by rw [HE.out]; rfl, rfl⟩
end Go.Proofs.YtpkepgcmifdpfaaGreatDoor
end

section
namespace Go.Proofs.YtpkepgcmifdpfaaGreatDoor
open Go Go.RowKit Go.Maps
set_option maxRecDepth 100000
theorem below_undrew {w w' : World} (h : Below w.drew.heap.size w.drew w') : Below w.heap.size w w' := (Below.refl w.heap.size w).drew.trans h
namespace M
theorem tw_zero {l : List Mv} {T C : List Si} {er : Int} (h : twIs l T C er) (h1 : twOk l T C) (h2 : twAll l T C) : er = 0 := by
  rcases h with ⟨-, -, h⟩ | ⟨-, h, -⟩ | ⟨h, -⟩
  · exact h
  · exact absurd h2 h
  · exact absurd h1 h
theorem pick_good {t : Tr} (h : trGood t) (ss : List Int) : twOk (pick t.l ss) t.T t.C ∧ twAll (pick t.l ss) t.T t.C := ⟨twOk_sub h.tw (pick_sub _ _), twAll_sub h.2.2 (pick_sub _ _)⟩
theorem pick_len {t : Tr} (h : trGood t) (ss : List Int) : (pick t.l ss).length ≤ 512 := Nat.le_trans (pick_sub t.l ss).length_le h.1.1.1
end M
theorem MD.works {w : World} {b : Nat} {a : TrA} {t : Tr} (h : MD w b a t) (ss : List Int) (A : Option Addr) (c : Nat) (hS : Sl 6 mvcell w w.heap.size A (M.pick t.l ss)) :
    Calls Tryz.prog 58 #[.slice A (M.pick t.l ss).length c, .slice a.T t.T.length a.t, .slice a.C t.C.length a.c] w fun e w' => (∃ A' c', e = .returned (.tuple #[.slice A' (M.wks t.T t.C (M.pick t.l ss)).length c', .int .i64 0]) ∧ Sl 3 wcell w' w'.heap.size A' (M.wks t.T t.C (M.pick t.l ss))) ∧ Below w.heap.size w w' := by
  obtain ⟨g1, g2⟩ := M.pick_good h.good ss
  have hl := M.pick_len h.good ss
  refine (works_ok A a.T a.C c a.t a.c (M.pick t.l ss) t.T t.C w hS h.tr.T h.tr.C (by omega) h.tr.hT h.tr.hC).mono ?_
  rintro e w' ⟨⟨er, her, hc⟩, hb⟩
  have h0 := M.tw_zero her g1 g2
  rcases hc with ⟨h1, -⟩ | ⟨-, A', c', rfl, h3⟩
  · exact absurd h0 h1
  · exact ⟨⟨A', c', by rw [M.wks_len g1 g2], h3⟩, hb⟩
set_option maxHeartbeats 32000000 in
theorem length_ok (b : Nat) (a : TrA) (t : Tr) (SA : Option Addr) (sc : Nat) (ss : List Int) (w : World) (h : MD w b a t) (hS : Sl 1 icell w w.heap.size SA ss) (hsl : ss.length ≤ 1000000) (hw : ∀ x ∈ ss, M.W64 x) :
    Calls Tryz.prog 43 #[.pointer (some ⟨b, 0, none⟩), .slice SA ss.length sc] w fun e w' => e = .returned (.int .i64 (M.phLen t ss : Nat)) ∧ Below w.heap.size w w' := by
  obtain ⟨bv, nv, bs, ns, Dv, Ds, xb, -⟩ := h.ex
  have hwl : (M.wks t.T t.C (M.pick t.l ss)).length ≤ 1000000 := by rw [M.wks_len (M.pick_good h.good ss).1 (M.pick_good h.good ss).2]; have := M.pick_len h.good ss; omega
  go_enter Tryz.func43, Tryz.ntmps43
  go_wp2_with fail
  refine wp_region_noPanic ?_
  refine wp_region_any (by kernel_rfl) ?_
  refine wpAny_of_L (S := (fun (_ : Array Bool) (w' : World) => (w'.cell? ⟨b, 2, none⟩ = some (.slice a.T t.T.length a.t) ∧ w'.cell? ⟨b, 3, none⟩ = some (.slice a.C t.C.length a.c)))) _ _ _ _ ?_
  change wpAnyL Tryz.prog _ _ _ _ _ _ _ w.drew
  have hd := h.next (Below.refl w.heap.size w).drew
  have E2 : w.drew.cell? ⟨b, 2, none⟩ = some (.slice a.T t.T.length a.t) := xb.cell 2 rfl
  have E3 : w.drew.cell? ⟨b, 3, none⟩ = some (.slice a.C t.C.length a.c) := xb.cell 3 rfl
  refine wpAnyL_take (i := 0) (q := 2) (v := .pointer (some ⟨b, 0, none⟩)) (fun w' => True) rfl (by kernel_rfl) (by kernel_rfl) (by kernel_rfl) (fun c a w h => h) rfl (by kernel_rfl) (by decide) (fun ls w => by simp) (fun ls w h1 h2 => trivial) rfl rfl (fun w h => by go_simp) ⟨E2, E3⟩ ?_
  try simp only [Act.put]
  refine wpAnyL_take (i := 1) (q := 2) (v := .slice SA ss.length sc) (fun w' => True) rfl (by kernel_rfl) (by kernel_rfl) (by kernel_rfl) (fun c a w h => h) rfl (by kernel_rfl) (by decide) (fun ls w => by simp) (fun ls w h1 h2 => trivial) rfl rfl (fun w h => by go_simp) ⟨E2, E3⟩ ?_
  try simp only [Act.put]
  refine wpAnyL_take (i := 3) (q := 4) (v := .pointer (some ⟨b, 0, none⟩)) (fun w' => True) rfl (by kernel_rfl) (by kernel_rfl) (by kernel_rfl) (fun c a w h => h) rfl (by kernel_rfl) (by decide) (fun ls w => by simp) (fun ls w h1 h2 => trivial) rfl rfl (fun w h => by go_simp) ⟨E2, E3⟩ ?_
  try simp only [Act.put]
  refine wpAnyL_take (i := 4) (q := 5) (v := .pointer (some ⟨b, 0, none⟩)) (fun w' => True) rfl (by kernel_rfl) (by kernel_rfl) (by kernel_rfl) (fun c a w h => h) rfl (by kernel_rfl) (by decide) (fun ls w => by simp) (fun ls w h1 h2 => trivial) rfl rfl (fun w h => by go_simp) ⟨E2, E3⟩ ?_
  try simp only [Act.put]
  refine wpAnyL_take (i := 5) (q := 6) (v := .pointer (some ⟨b, 0, none⟩)) (fun w' => True) rfl (by kernel_rfl) (by kernel_rfl) (by kernel_rfl) (fun c a w h => h) rfl (by kernel_rfl) (by decide) (fun ls w => by simp) (fun ls w h1 h2 => trivial) rfl rfl (fun w h => by go_simp) ⟨E2, E3⟩ ?_
  try simp only [Act.put]
  refine wpAnyL_take (i := 6) (q := 7) (v := .pointer (some ⟨b, 2, none⟩)) (fun w' => True) rfl (by kernel_rfl) (by kernel_rfl) (by kernel_rfl) (fun c a w h => h) rfl (by kernel_rfl) (by decide) (fun ls w => by simp) (fun ls w h1 h2 => trivial) rfl rfl (fun w h => by go_simp) ⟨E2, E3⟩ ?_
  try simp only [Act.put]
  refine wpAnyL_take (i := 7) (q := 13) (v := .slice a.T t.T.length a.t) (fun w' => w'.cell? ⟨b, 2, none⟩ = some (.slice a.T t.T.length a.t)) rfl (by kernel_rfl) (by kernel_rfl) (by kernel_rfl) (fun c a w h => h) rfl (by kernel_rfl) (by decide) (fun ls w => by simp) (fun ls w h1 h2 => h2.1) rfl rfl (fun w h => by go_simp) ⟨E2, E3⟩ ?_
  try simp only [Act.put]
  refine wpAnyL_take (i := 8) (q := 9) (v := .pointer (some ⟨b, 0, none⟩)) (fun w' => True) rfl (by kernel_rfl) (by kernel_rfl) (by kernel_rfl) (fun c a w h => h) rfl (by kernel_rfl) (by decide) (fun ls w => by simp) (fun ls w h1 h2 => trivial) rfl rfl (fun w h => by go_simp) ⟨E2, E3⟩ ?_
  try simp only [Act.put]
  refine wpAnyL_take (i := 9) (q := 10) (v := .pointer (some ⟨b, 0, none⟩)) (fun w' => True) rfl (by kernel_rfl) (by kernel_rfl) (by kernel_rfl) (fun c a w h => h) rfl (by kernel_rfl) (by decide) (fun ls w => by simp) (fun ls w h1 h2 => trivial) rfl rfl (fun w h => by go_simp) ⟨E2, E3⟩ ?_
  try simp only [Act.put]
  refine wpAnyL_take (i := 10) (q := 11) (v := .pointer (some ⟨b, 0, none⟩)) (fun w' => True) rfl (by kernel_rfl) (by kernel_rfl) (by kernel_rfl) (fun c a w h => h) rfl (by kernel_rfl) (by decide) (fun ls w => by simp) (fun ls w h1 h2 => trivial) rfl rfl (fun w h => by go_simp) ⟨E2, E3⟩ ?_
  try simp only [Act.put]
  refine wpAnyL_take (i := 11) (q := 12) (v := .pointer (some ⟨b, 3, none⟩)) (fun w' => True) rfl (by kernel_rfl) (by kernel_rfl) (by kernel_rfl) (fun c a w h => h) rfl (by kernel_rfl) (by decide) (fun ls w => by simp) (fun ls w h1 h2 => trivial) rfl rfl (fun w h => by go_simp) ⟨E2, E3⟩ ?_
  try simp only [Act.put]
  refine wpAnyL_take (i := 12) (q := 13) (v := .slice a.C t.C.length a.c) (fun w' => w'.cell? ⟨b, 3, none⟩ = some (.slice a.C t.C.length a.c)) rfl (by kernel_rfl) (by kernel_rfl) (by kernel_rfl) (fun c a w h => h) rfl (by kernel_rfl) (by decide) (fun ls w => by simp) (fun ls w h1 h2 => h2.2) rfl rfl (fun w h => by go_simp) ⟨E2, E3⟩ ?_
  try simp only [Act.put]
  refine wpAnyL_one (i := 2) (by kernel_rfl) ?_
  refine wpOp_K (fun K hK => ?_)
  refine wpOp_one rfl rfl ?_
  go_simp
  refine (pick_ok b a t SA sc ss w.drew hd hS hsl hw).mono ?_
  rintro e w2 ⟨A2, c2, rfl, hS2, hb2⟩
  have h2 := hd.next hb2
  have xb2 : Box w2 b _ _ := Box.below (w := w.drew) xb hb2
  refine hK _ _ ⟨⟨xb2.cell 2 rfl, xb2.cell 3 rfl⟩, ?_⟩
  clear hK K
  try simp only [Act.put]
  refine wpAnyL_one (i := 13) (by kernel_rfl) ?_
  refine wpOp_K (fun K hK => ?_)
  refine wpOp_one rfl rfl ?_
  go_simp
  refine (h2.works ss A2 c2 hS2).mono ?_
  rintro e w3 ⟨⟨A3, c3, rfl, hS3⟩, hb3⟩
  have xb3 := xb2.below hb3
  refine hK _ _ ⟨⟨xb3.cell 2 rfl, xb3.cell 3 rfl⟩, ?_⟩
  clear hK K
  try simp only [Act.put]
  refine wpAnyL_one (i := 14) (by kernel_rfl) ?_
  refine wpOp_K (fun K hK => ?_)
  refine wpOp_one rfl rfl ?_
  go_simp
  refine hK _ _ ⟨⟨xb3.cell 2 rfl, xb3.cell 3 rfl⟩, ?_⟩
  clear hK K
  try simp only [Act.put]
  refine wpAnyL_take (i := 15) (q := 17) (v := .slice A3 (M.wks t.T t.C (M.pick t.l ss)).length c3) (fun w' => True) rfl (by kernel_rfl) (by kernel_rfl) (by kernel_rfl) (fun c a w h => h) rfl (by kernel_rfl) (by decide) (fun ls w => by simp) (fun ls w h1 h2 => trivial) rfl rfl (fun w h => by go_simp) ⟨xb3.cell 2 rfl, xb3.cell 3 rfl⟩ ?_
  try simp only [Act.put]
  refine wpAnyL_take (i := 16) (q := 18) (v := .int .i64 0) (fun w' => True) rfl (by kernel_rfl) (by kernel_rfl) (by kernel_rfl) (fun c a w h => h) rfl (by kernel_rfl) (by decide) (fun ls w => by simp) (fun ls w h1 h2 => trivial) rfl rfl (fun w h => by go_simp) ⟨xb3.cell 2 rfl, xb3.cell 3 rfl⟩ ?_
  try simp only [Act.put]
  refine wpAnyL_one (i := 17) (by kernel_rfl) ?_
  refine wpOp_K (fun K hK => ?_)
  refine wpOp_one rfl rfl ?_
  go_simp
  refine hK _ _ ⟨⟨xb3.cell 2 rfl, xb3.cell 3 rfl⟩, ?_⟩
  clear hK K
  try simp only [Act.put]
  refine wpAnyL_one (i := 18) (by kernel_rfl) ?_
  refine wpOp_K (fun K hK => ?_)
  refine wpOp_one rfl rfl ?_
  go_simp
  refine hK _ _ ⟨⟨xb3.cell 2 rfl, xb3.cell 3 rfl⟩, ?_⟩
  clear hK K
  try simp only [Act.put]
  refine wpAnyL_done (by kernel_rfl) (NoPanic.normal ?_) _
  go_wp2_with fail
  refine (towerLength_ok A3 c3 _ w3 hS3 hwl).mono ?_
  rintro e w4 ⟨rfl, hb4⟩
  go_wp2_with fail
  go_ret
  exact ⟨rfl, after_ (below_undrew hb2) (after_ hb3 hb4)⟩
set_option maxHeartbeats 32000000 in
theorem small_ok (b : Nat) (a : TrA) (t : Tr) (SA : Option Addr) (sc : Nat) (ss : List Int) (w : World) (h : MD w b a t) (hS : Sl 1 icell w w.heap.size SA ss) (hsl : ss.length ≤ 1000000) (hw : ∀ x ∈ ss, M.W64 x) :
    Calls Tryz.prog 31 #[.pointer (some ⟨b, 0, none⟩), .slice SA ss.length sc] w fun e w' => e = .returned (.bool (M.small t ss)) ∧ Below w.heap.size w w' := by
  obtain ⟨bv, nv, bs, ns, Dv, Ds, xb, -⟩ := h.ex
  have hwl : (M.wks t.T t.C (M.pick t.l ss)).length ≤ 1000000 := by rw [M.wks_len (M.pick_good h.good ss).1 (M.pick_good h.good ss).2]; have := M.pick_len h.good ss; omega
  have kP := pick_ok b a t SA sc ss w h hS hsl hw
  obtain ⟨r, hr⟩ : ∃ r, M.small t ss = r := ⟨_, rfl⟩
  rw [hr]
  have HR := Lib.hid hr
  have HW := Lib.hid hw
  clear hr hw
  go_enter Tryz.func31, Tryz.ntmps31
  go_wp2_with fail
  refine kP.mono ?_
  rintro e w2 ⟨A2, c2, rfl, hS2, hb2⟩
  clear kP
  have h2 := h.next hb2
  have xb2 := xb.below hb2
  have c4 := xb2.cell 4 rfl
  by_cases hlm : t.lm < ((M.pick t.l ss).length : Int)
  · have q0 : decide (t.lm < ((M.pick t.l ss).length : Int)) = true := decide_eq_true hlm
    have HF : Hid (r = false) := Lib.hid (by rw [← HR.out]; unfold M.small; rw [decide_eq_false (by omega)]; rfl)
    clear hlm
    go_wp2_with fail
    go_ret
    exact ⟨by rw [HF.out]; rfl, hb2⟩
  have q0 : decide (t.lm < ((M.pick t.l ss).length : Int)) = false := decide_eq_false hlm
  have HE : Hid (decide ((M.phLen t ss : Int) ≤ t.lw) = r) := Lib.hid (by rw [← HR.out]; unfold M.small; rw [decide_eq_true (by omega : ((M.pick t.l ss).length : Int) ≤ t.lm)]; rfl)
  clear hlm
  go_wp2_with fail
  clear c4 q0
  refine wp_region_noPanic ?_
  refine wp_region_any (by kernel_rfl) ?_
  refine wpAny_of_L (S := (fun (_ : Array Bool) (w' : World) => (w'.cell? ⟨b, 2, none⟩ = some (.slice a.T t.T.length a.t) ∧ w'.cell? ⟨b, 3, none⟩ = some (.slice a.C t.C.length a.c)))) _ _ _ _ ?_
  change wpAnyL Tryz.prog _ _ _ _ _ _ _ w2.drew
  have hd := h2.next (Below.refl w2.heap.size w2).drew
  have E2 : w2.drew.cell? ⟨b, 2, none⟩ = some (.slice a.T t.T.length a.t) := xb2.cell 2 rfl
  have E3 : w2.drew.cell? ⟨b, 3, none⟩ = some (.slice a.C t.C.length a.c) := xb2.cell 3 rfl
  refine wpAnyL_take (i := 0) (q := 11) (v := .slice A2 (M.pick t.l ss).length c2) (fun w' => True) rfl (by kernel_rfl) (by kernel_rfl) (by kernel_rfl) (fun c a w h => h) rfl (by kernel_rfl) (by decide) (fun ls w => by simp) (fun ls w h1 h2 => trivial) rfl rfl (fun w h => by go_simp) ⟨E2, E3⟩ ?_
  try simp only [Act.put]
  refine wpAnyL_take (i := 1) (q := 2) (v := .pointer (some ⟨b, 0, none⟩)) (fun w' => True) rfl (by kernel_rfl) (by kernel_rfl) (by kernel_rfl) (fun c a w h => h) rfl (by kernel_rfl) (by decide) (fun ls w => by simp) (fun ls w h1 h2 => trivial) rfl rfl (fun w h => by go_simp) ⟨E2, E3⟩ ?_
  try simp only [Act.put]
  refine wpAnyL_take (i := 2) (q := 3) (v := .pointer (some ⟨b, 0, none⟩)) (fun w' => True) rfl (by kernel_rfl) (by kernel_rfl) (by kernel_rfl) (fun c a w h => h) rfl (by kernel_rfl) (by decide) (fun ls w => by simp) (fun ls w h1 h2 => trivial) rfl rfl (fun w h => by go_simp) ⟨E2, E3⟩ ?_
  try simp only [Act.put]
  refine wpAnyL_take (i := 3) (q := 4) (v := .pointer (some ⟨b, 0, none⟩)) (fun w' => True) rfl (by kernel_rfl) (by kernel_rfl) (by kernel_rfl) (fun c a w h => h) rfl (by kernel_rfl) (by decide) (fun ls w => by simp) (fun ls w h1 h2 => trivial) rfl rfl (fun w h => by go_simp) ⟨E2, E3⟩ ?_
  try simp only [Act.put]
  refine wpAnyL_take (i := 4) (q := 5) (v := .pointer (some ⟨b, 2, none⟩)) (fun w' => True) rfl (by kernel_rfl) (by kernel_rfl) (by kernel_rfl) (fun c a w h => h) rfl (by kernel_rfl) (by decide) (fun ls w => by simp) (fun ls w h1 h2 => trivial) rfl rfl (fun w h => by go_simp) ⟨E2, E3⟩ ?_
  try simp only [Act.put]
  refine wpAnyL_take (i := 5) (q := 11) (v := .slice a.T t.T.length a.t) (fun w' => w'.cell? ⟨b, 2, none⟩ = some (.slice a.T t.T.length a.t)) rfl (by kernel_rfl) (by kernel_rfl) (by kernel_rfl) (fun c a w h => h) rfl (by kernel_rfl) (by decide) (fun ls w => by simp) (fun ls w h1 h2 => h2.1) rfl rfl (fun w h => by go_simp) ⟨E2, E3⟩ ?_
  try simp only [Act.put]
  refine wpAnyL_take (i := 6) (q := 7) (v := .pointer (some ⟨b, 0, none⟩)) (fun w' => True) rfl (by kernel_rfl) (by kernel_rfl) (by kernel_rfl) (fun c a w h => h) rfl (by kernel_rfl) (by decide) (fun ls w => by simp) (fun ls w h1 h2 => trivial) rfl rfl (fun w h => by go_simp) ⟨E2, E3⟩ ?_
  try simp only [Act.put]
  refine wpAnyL_take (i := 7) (q := 8) (v := .pointer (some ⟨b, 0, none⟩)) (fun w' => True) rfl (by kernel_rfl) (by kernel_rfl) (by kernel_rfl) (fun c a w h => h) rfl (by kernel_rfl) (by decide) (fun ls w => by simp) (fun ls w h1 h2 => trivial) rfl rfl (fun w h => by go_simp) ⟨E2, E3⟩ ?_
  try simp only [Act.put]
  refine wpAnyL_take (i := 8) (q := 9) (v := .pointer (some ⟨b, 0, none⟩)) (fun w' => True) rfl (by kernel_rfl) (by kernel_rfl) (by kernel_rfl) (fun c a w h => h) rfl (by kernel_rfl) (by decide) (fun ls w => by simp) (fun ls w h1 h2 => trivial) rfl rfl (fun w h => by go_simp) ⟨E2, E3⟩ ?_
  try simp only [Act.put]
  refine wpAnyL_take (i := 9) (q := 10) (v := .pointer (some ⟨b, 3, none⟩)) (fun w' => True) rfl (by kernel_rfl) (by kernel_rfl) (by kernel_rfl) (fun c a w h => h) rfl (by kernel_rfl) (by decide) (fun ls w => by simp) (fun ls w h1 h2 => trivial) rfl rfl (fun w h => by go_simp) ⟨E2, E3⟩ ?_
  try simp only [Act.put]
  refine wpAnyL_take (i := 10) (q := 11) (v := .slice a.C t.C.length a.c) (fun w' => w'.cell? ⟨b, 3, none⟩ = some (.slice a.C t.C.length a.c)) rfl (by kernel_rfl) (by kernel_rfl) (by kernel_rfl) (fun c a w h => h) rfl (by kernel_rfl) (by decide) (fun ls w => by simp) (fun ls w h1 h2 => h2.2) rfl rfl (fun w h => by go_simp) ⟨E2, E3⟩ ?_
  try simp only [Act.put]
  refine wpAnyL_one (i := 11) (by kernel_rfl) ?_
  refine wpOp_K (fun K hK => ?_)
  refine wpOp_one rfl rfl ?_
  go_simp
  refine (hd.works ss A2 c2 hS2).mono ?_
  rintro e w3 ⟨⟨A3, c3, rfl, hS3⟩, hb3⟩
  have xb3 : Box w3 b _ _ := Box.below (w := w2.drew) xb2 hb3
  refine hK _ _ ⟨⟨xb3.cell 2 rfl, xb3.cell 3 rfl⟩, ?_⟩
  clear hK K
  try simp only [Act.put]
  refine wpAnyL_one (i := 12) (by kernel_rfl) ?_
  refine wpOp_K (fun K hK => ?_)
  refine wpOp_one rfl rfl ?_
  go_simp
  refine hK _ _ ⟨⟨xb3.cell 2 rfl, xb3.cell 3 rfl⟩, ?_⟩
  clear hK K
  try simp only [Act.put]
  refine wpAnyL_take (i := 13) (q := 15) (v := .slice A3 (M.wks t.T t.C (M.pick t.l ss)).length c3) (fun w' => True) rfl (by kernel_rfl) (by kernel_rfl) (by kernel_rfl) (fun c a w h => h) rfl (by kernel_rfl) (by decide) (fun ls w => by simp) (fun ls w h1 h2 => trivial) rfl rfl (fun w h => by go_simp) ⟨xb3.cell 2 rfl, xb3.cell 3 rfl⟩ ?_
  try simp only [Act.put]
  refine wpAnyL_take (i := 14) (q := 16) (v := .int .i64 0) (fun w' => True) rfl (by kernel_rfl) (by kernel_rfl) (by kernel_rfl) (fun c a w h => h) rfl (by kernel_rfl) (by decide) (fun ls w => by simp) (fun ls w h1 h2 => trivial) rfl rfl (fun w h => by go_simp) ⟨xb3.cell 2 rfl, xb3.cell 3 rfl⟩ ?_
  try simp only [Act.put]
  refine wpAnyL_one (i := 15) (by kernel_rfl) ?_
  refine wpOp_K (fun K hK => ?_)
  refine wpOp_one rfl rfl ?_
  go_simp
  refine hK _ _ ⟨⟨xb3.cell 2 rfl, xb3.cell 3 rfl⟩, ?_⟩
  clear hK K
  try simp only [Act.put]
  refine wpAnyL_one (i := 16) (by kernel_rfl) ?_
  refine wpOp_K (fun K hK => ?_)
  refine wpOp_one rfl rfl ?_
  go_simp
  refine hK _ _ ⟨⟨xb3.cell 2 rfl, xb3.cell 3 rfl⟩, ?_⟩
  clear hK K
  try simp only [Act.put]
  refine wpAnyL_done (by kernel_rfl) (NoPanic.normal ?_) _
  have he := HE.out
  have kL : Hid (∀ u : Kept w3.heap.size w3, Calls Tryz.prog 59 #[.slice A3 (M.wks t.T t.C (M.pick t.l ss)).length c3] u.val fun e w' => e = .returned (.int .i64 (M.phLen t ss : Nat)) ∧ Below u.val.heap.size u.val w') := Lib.hid (fun u => towerLength_ok A3 c3 _ u.val ((hS3.below u.h).more u.h.size) hwl)
  have c5 := xb3.cell 5 rfl
  have l3 := xb3.lt
  go_wp2_with fail
  refine wp_region_kept w3.heap.size w3 (by kernel_rfl) (by kernel_rfl) (Below.refl _ _) ?_
  repeat (go_big_quiet_step ((go_at_call 59; with_reducible exact Kept.calls (Nat.le_refl _) (kL.out _))))
  refine wpQuiet_nil ?_
  rintro w5 ⟨⟨w5x, hb5⟩, hw5⟩
  dsimp only at hw5
  subst hw5
  go_wp2_with fail
  go_ret
  exact ⟨rfl, after_ hb2 (after_ (below_undrew hb3) hb5)⟩
set_option maxHeartbeats 16000000 in
theorem Small_ok (a : TrA) (t : Tr) (SA : Option Addr) (sc : Nat) (ss : List Int) (w : World) (ht : TrM w a t) (hS : Sl 1 icell w w.heap.size SA ss) (hsl : ss.length ≤ 1000000) (hw : ∀ x ∈ ss, M.W64 x) :
    Calls Tryz.prog 10 #[trV a t, .slice SA ss.length sc] w fun e w' => (∃ er, M.trIs t er ∧ ((er ≠ 0 ∧ e = .returned (.tuple #[.bool false, .int .i64 er])) ∨ (er = 0 ∧ e = .returned (.tuple #[.bool (M.small t ss), .int .i64 0])))) ∧ Below w.heap.size w w' := by
  obtain ⟨X, HX, x0, hB, -⟩ := boxes1 w (trc a t) 28
  have hX := HX.out
  have tx := ht.next hB
  obtain ⟨c0, c1, c2, c3, c4, c5⟩ := x0.c6
  have kB := build_ok a t X tx
  have HW := Lib.hid hw
  clear hw
  go_enter Tryz.func10, Tryz.ntmps10
  go_wp2_with fail
  clear hX c0 c1 c2 c3 c4 c5
  refine kB.mono ?_
  rintro e w1 ⟨⟨er, her, hc⟩, hb1⟩
  clear kB
  have B1 := after_ hB hb1
  have HER := Lib.hid her
  clear her
  rcases hc with ⟨hne, rfl⟩ | ⟨rfl, b, rfl, hbb, hm⟩
  · have q0 : (er == 0) = false := by simpa using hne
    have q1 : (er != 0) = true := by simpa using hne
    have HE0 := Lib.hid hne
    clear hne
    go_wp2_with fail
    go_ret2
    exact ⟨⟨er, HER.out, .inl ⟨HE0.out, rfl⟩⟩, B1⟩
  have kS := small_ok b a t SA sc ss w1 hm ((hS.below B1).more B1.size) hsl HW.out
  go_wp2_with fail
  refine kS.mono ?_
  rintro e w2 ⟨rfl, hb2⟩
  go_wp2_with fail
  go_ret2
  exact ⟨⟨0, HER.out, .inr ⟨rfl, rfl⟩⟩, after_ B1 hb2⟩
end Go.Proofs.YtpkepgcmifdpfaaGreatDoor
end

section
namespace Go.Proofs.YtpkepgcmifdpfaaGreatDoor
open Go Go.RowKit Go.Maps
set_option maxRecDepth 100000
set_option maxHeartbeats 4000000 in
theorem up_ok (a : Nat) (b : Int) (w : World) (hb : 1 ≤ b ∧ b ≤ 1000000000000) (ha : a ≤ 1000000000000) : Calls Tryz.prog 60 #[.int .i64 (a : Nat), .int .i64 b] w fun e w' => e = .returned (.int .i64 (M.upN a b.toNat : Nat)) ∧ w = w' := by
  have e1 : Int.tdiv ((a : Int) + b - 1) b = ((M.upN a b.toNat : Nat) : Int) := by
    rw [Int.tdiv_eq_ediv_of_nonneg (by omega)]
    unfold M.upN
    rw [Int.natCast_ediv]
    congr 1
    · omega
    · omega
  have hle : M.upN a b.toNat ≤ 2000000000000 := by
    unfold M.upN
    exact Nat.le_trans (Nat.div_le_self _ _) (by omega)
  have hb0 : b ≠ 0 := by omega
  have hb1 : (b == 0) = false := by simpa using hb0
  generalize M.upN a b.toNat = r at *
  have hw : IntKind.i64.wrap (r : Int) = (r : Int) := by rw [IntWalk.i64_left]; exact IntWalk.wrap64_in _ (by omega)
  go_enter Tryz.func60, Tryz.ntmps60
  go_wp2_with fail
  go_ret
  exact ⟨rfl, rfl⟩
structure SumD (D : DataW Unit) (g : M.Pl → Nat) (ps : List M.Pl) : Prop where
  map : IsMap D
  hit : ∀ p, M.PlOk p → D.atKey (plit p) (.lit (.int .i64 0)) = .lit (.int .i64 (g p : Nat))
  keys : ∀ kl, Maps.has D kl = true → ∃ p ∈ ps, M.PlOk p ∧ kl = plit p
  has : ∀ p ∈ ps, Maps.has D (plit p) = true ∧ ∀ z, D.atKey (plit p) z = .lit (.int .i64 (g p : Nat))
theorem SumD.start : SumD (.map []) (fun _ => 0) [] := ⟨isMap_empty, fun p _ => rfl, fun kl h => (by cases h), fun p h => absurd h (by simp)⟩
theorem SumD.put {D : DataW Unit} {g g' : M.Pl → Nat} {ps : List M.Pl} (h : SumD D g ps) (hps : ∀ q ∈ ps, M.PlOk q) {p : M.Pl} (hp : M.PlOk p) {x : Int} (hx : x = (g' p : Nat)) (hg : ∀ q, q ≠ p → g' q = g q) : SumD (D.put (plit p) (.lit (.int .i64 x))) g' (ps ++ [p]) := by
  subst hx
  refine ⟨h.map.put _ _, fun q hq => ?_, fun kl hk => ?_, fun q hq => ?_⟩
  · by_cases e : q = p
    · subst e; exact atKey_put_same h.map (plit_key q) _ _
    · rw [atKey_put_other (fun e2 => e (plit_inj hq hp e2)), hg q e]
      exact h.hit q hq
  · by_cases e : kl = plit p
    · exact ⟨p, by simp, hp, e⟩
    · rw [has_put_other e] at hk
      obtain ⟨q, h1, h2, h3⟩ := h.keys kl hk
      exact ⟨q, List.mem_append.2 (.inl h1), h2, h3⟩
  · by_cases e : q = p
    · subst e
      exact ⟨has_put_same h.map (plit_key q) _, fun z => atKey_put_same h.map (plit_key q) _ _⟩
    · have hq' : q ∈ ps := by
        rcases List.mem_append.1 hq with h1 | h1
        · exact h1
        · exact absurd (List.mem_singleton.1 h1) e
      have h2 := h.has q hq'
      have hne : plit q ≠ plit p := fun e2 => e (plit_inj (hps q hq') hp e2)
      exact ⟨(has_put_other hne _).trans h2.1, fun z => by rw [atKey_put_other hne, hg q e]; exact h2.2 z⟩
set_option maxHeartbeats 32000000 in
theorem loads_reg5 {Q : Exit → Act → World → Prop} {cd : Code} {dl : List Deferred} {Z0 Z1 Z2 Z4 Z6 Z7 Z8 Z9 Za Zb Zc Zd Ze Zf Zg Zh Zi Zj Zk Zl Zm Zn Zo Zp Zq Zr Zs Zt Zu Zv Zw Zx Zy : Value} {bm nn mb : Nat} {D : DataW Unit} {m : Mv} {X : World} (hown : X.ownsMap Tryz.prog 113 (plainElem (H := Unit) Tryz.prog 3) bm nn D) (hM : IsMap D) (hnn : nn < maxLen) (hp : M.PlOk (false, m.tw)) (hmb : Box X mb (mvc m) 66) (hbm : bm ≠ mb) (hcd : (Tryz.f61.body.bind (regionOf 5)) = some cd)
    (hQ : ∀ (y13 y14 y15 y16 y17 y18 y19 y20 y21 y22 : Value) (wo : World) (c : Int), D.atKey (plit (false, m.tw)) (.lit (.int .i64 0)) = .lit (.int .i64 c) → wo.ownsMap Tryz.prog 113 (plainElem (H := Unit) Tryz.prog 3) bm (nn + 1) (D.put (plit (false, m.tw)) (.lit (.int .i64 (IntKind.i64.wrap (c + m.wk))))) → X.grownBy wo (some bm) → Q .normal ⟨#[Z0,Z1,Z2,.map (some bm),Z4,.pointer (some ⟨mb, 0, none⟩),Z6,Z7,Z8,Z9,Za,Zb,Zc,y13,y14,y15,y16,y17,y18,y19,y20,y21,y22,Zn,Zo,Zp,Zq,Zr,Zs,Zt,Zu,Zv,Zw,Zx,Zy], dl⟩ wo) :
    cd.wp Tryz.prog Q ⟨#[Z0,Z1,Z2,.map (some bm),Z4,.pointer (some ⟨mb, 0, none⟩),Z6,Z7,Z8,Z9,Za,Zb,Zc,Zd,Ze,Zf,Zg,Zh,Zi,Zj,Zk,Zl,Zm,Zn,Zo,Zp,Zq,Zr,Zs,Zt,Zu,Zv,Zw,Zx,Zy], dl⟩ X := by
  rw [show (Tryz.f61.body.bind (regionOf 5)) = some (Code.region 5 _ true) from rfl] at hcd
  obtain rfl := Option.some.inj hcd
  clear hcd
  dsimp only at hQ ⊢
  have hmbd : Box X.drew mb _ _ := hmb
  obtain ⟨c, hat, hwc, hlk, st, w1, hme, hg1, hs1, hlk1, hback⟩ := entry_int (ownsMap_draw hown) placePLaw hM Tryz.underlying109 Tryz.underlying3 (zeroIntG) hnn (placeP_key hp) (plit_key (false, m.tw))
  have HB := Lib.hid hback
  have HAT := Lib.hid hat
  have HG1 := Lib.hid hg1
  clear hback hat hnn hM
  have D1 := hmbd.c6'.2.2.2.1
  have D3 := hmbd.c6'.2.2.2.2.2
  have hm1 := hmbd.grown hg1 (fun e => by have := Option.some.inj e; omega)
  have D1' := hm1.c6'.2.2.2.1
  have D3' := hm1.c6'.2.2.2.2.2
  have HLD := Lib.hid hlk
  clear hlk
  refine wp_region_noPanic ?_
  refine wp_region_any (by kernel_rfl) ?_
  refine wpAny_of_L (S := (fun (ls : Array Bool) (w' : World) => ls.getD 10 true = false → w'.cell? ⟨mb, 3, none⟩ = some (.int .i64 m.tw) ∧ w'.cell? ⟨mb, 5, none⟩ = some (.int .i64 m.wk) ∧ (Instr.lookup 109 (.map (some bm)) (plv (false, m.tw)) false).run Tryz.prog w' = .ok (.int .i64 c) w')) _ _ _ _ ?_
  change wpAnyL Tryz.prog _ _ _ _ _ _ _ X.drew
  have hlk0 : (Instr.lookup 109 (.map (some bm)) (plv (false, m.tw)) false).run Tryz.prog X.drew = .ok (.int .i64 c) X.drew := HLD.out
  refine wpAnyL_take (i := 0) (q := 10) (v := .map (some bm)) (fun w' => True) rfl (by kernel_rfl) (by kernel_rfl) (by kernel_rfl) (fun c a w h => h) rfl (by kernel_rfl) (by decide) (fun ls w => by simp) (fun ls w h1 h2 => trivial) rfl rfl (fun w h => by go_simp) (fun _ => ⟨D1, D3, hlk0⟩) ?_
  try simp only [Act.put]
  refine wpAnyL_take (i := 1) (q := 10) (v := .pointer (some ⟨mb, 3, none⟩)) (fun w' => True) rfl (by kernel_rfl) (by kernel_rfl) (by kernel_rfl) (fun c a w h => h) rfl (by kernel_rfl) (by decide) (fun ls w => by simp) (fun ls w h1 h2 => trivial) rfl rfl (fun w h => by go_simp) (fun _ => ⟨D1, D3, hlk0⟩) ?_
  try simp only [Act.put]
  refine wpAnyL_take (i := 2) (q := 10) (v := .int .i64 m.tw) (fun w' => w'.cell? ⟨mb, 3, none⟩ = some (.int .i64 m.tw)) rfl (by kernel_rfl) (by kernel_rfl) (by kernel_rfl) (fun c a w h => h) rfl (by kernel_rfl) (by decide) (fun ls w => by simp) (fun ls w h1 h2 => (h2 h1).1) rfl rfl (fun w h => by go_simp) (fun _ => ⟨D1, D3, hlk0⟩) ?_
  try simp only [Act.put]
  refine wpAnyL_take (i := 3) (q := 10) (v := plv (false, m.tw)) (fun w' => True) rfl (by kernel_rfl) (by kernel_rfl) (by kernel_rfl) (fun c a w h => h) rfl (by kernel_rfl) (by decide) (fun ls w => by simp) (fun ls w h1 h2 => trivial) rfl rfl (fun w h => by go_simp) (fun _ => ⟨D1, D3, hlk0⟩) ?_
  try simp only [Act.put]
  refine wpAnyL_take (i := 4) (q := 10) (v := .int .i64 c) (fun w' => (Instr.lookup 109 (.map (some bm)) (plv (false, m.tw)) false).run Tryz.prog w' = .ok (.int .i64 c) w') rfl (by kernel_rfl) (by kernel_rfl) (by kernel_rfl) (fun c a w h => h) rfl (by kernel_rfl) (by decide) (fun ls w => by simp) (fun ls w h1 h2 => (h2 h1).2.2) rfl rfl (fun w h => by go_simp) (fun _ => ⟨D1, D3, hlk0⟩) ?_
  try simp only [Act.put]
  refine wpAnyL_take (i := 5) (q := 10) (v := .pointer (some ⟨mb, 5, none⟩)) (fun w' => True) rfl (by kernel_rfl) (by kernel_rfl) (by kernel_rfl) (fun c a w h => h) rfl (by kernel_rfl) (by decide) (fun ls w => by simp) (fun ls w h1 h2 => trivial) rfl rfl (fun w h => by go_simp) (fun _ => ⟨D1, D3, hlk0⟩) ?_
  try simp only [Act.put]
  refine wpAnyL_take (i := 6) (q := 10) (v := .int .i64 m.wk) (fun w' => w'.cell? ⟨mb, 5, none⟩ = some (.int .i64 m.wk)) rfl (by kernel_rfl) (by kernel_rfl) (by kernel_rfl) (fun c a w h => h) rfl (by kernel_rfl) (by decide) (fun ls w => by simp) (fun ls w h1 h2 => (h2 h1).2.1) rfl rfl (fun w h => by go_simp) (fun _ => ⟨D1, D3, hlk0⟩) ?_
  try simp only [Act.put]
  refine wpAnyL_take (i := 7) (q := 10) (v := .int .i64 (IntKind.i64.wrap (c + m.wk))) (fun w' => True) rfl (by kernel_rfl) (by kernel_rfl) (by kernel_rfl) (fun c a w h => h) rfl (by kernel_rfl) (by decide) (fun ls w => by simp) (fun ls w h1 h2 => trivial) rfl rfl (fun w h => by go_simp) (fun _ => ⟨D1, D3, hlk0⟩) ?_
  try simp only [Act.put]
  refine wpAnyL_one (i := 8) (by kernel_rfl) ?_
  refine wpOp_K (fun K hK => ?_)
  refine wpOp_one rfl rfl ?_
  go_simp
  refine hK _ _ ⟨(fun _ => ⟨D1', D3', hlk1⟩), ?_⟩
  clear hK K
  try simp only [Act.put]
  refine wpAnyL_one (i := 9) (by kernel_rfl) ?_
  refine wpOp_K (fun K hK => ?_)
  refine wpOp_one rfl rfl ?_
  go_simp
  refine hK _ _ ⟨(fun _ => ⟨D1', D3', hlk1⟩), ?_⟩
  clear hK K
  try simp only [Act.put]
  refine wpAnyL_one (i := 10) (by kernel_rfl) ?_
  refine wpOp_K (fun K hK => ?_)
  refine wpOp_one rfl rfl ?_
  obtain ⟨w3, hes, hown3, hg3⟩ := HB.out w1 (IntKind.i64.wrap (c + m.wk)) (wf_wrap _) rfl
  replace hes : (Instr.entryStore 109 (.map (some bm)) (.int .i64 (st : Int)) (.int .i64 (IntKind.i64.wrap (c + m.wk)))).run Tryz.prog w1 = .ok () w3 := hes
  go_simp
  refine hK _ _ ⟨(fun h => absurd h (by simp)), ?_⟩
  clear hK K
  try simp only [Act.put]
  refine wpAnyL_done (by kernel_rfl) (NoPanic.normal ?_) _
  exact hQ _ _ _ _ _ _ _ _ _ _ _ c HAT.out hown3 (grown_drew (HG1.out.trans hg3))
set_option maxHeartbeats 32000000 in
theorem loads_reg6 {Q : Exit → Act → World → Prop} {cd : Code} {dl : List Deferred} {Z0 Z1 Z2 Z4 Z6 Z7 Z8 Z9 Za Zb Zc Zd Ze Zf Zg Zh Zi Zj Zk Zl Zm Zn Zo Zp Zq Zr Zs Zt Zu Zv Zw Zx Zy : Value} {bm nn mb : Nat} {D : DataW Unit} {m : Mv} {X : World} (hown : X.ownsMap Tryz.prog 113 (plainElem (H := Unit) Tryz.prog 3) bm nn D) (hM : IsMap D) (hnn : nn < maxLen) (hp : M.PlOk (true, m.cr)) (hmb : Box X mb (mvc m) 66) (hbm : bm ≠ mb) (hcd : (Tryz.f61.body.bind (regionOf 6)) = some cd)
    (hQ : ∀ (y23 y24 y25 y26 y27 y28 y29 y30 y31 y32 : Value) (wo : World) (c : Int), D.atKey (plit (true, m.cr)) (.lit (.int .i64 0)) = .lit (.int .i64 c) → wo.ownsMap Tryz.prog 113 (plainElem (H := Unit) Tryz.prog 3) bm (nn + 1) (D.put (plit (true, m.cr)) (.lit (.int .i64 (IntKind.i64.wrap (c + m.wk))))) → X.grownBy wo (some bm) → Q .normal ⟨#[Z0,Z1,Z2,.map (some bm),Z4,.pointer (some ⟨mb, 0, none⟩),Z6,Z7,Z8,Z9,Za,Zb,Zc,Zd,Ze,Zf,Zg,Zh,Zi,Zj,Zk,Zl,Zm,y23,y24,y25,y26,y27,y28,y29,y30,y31,y32,Zx,Zy], dl⟩ wo) :
    cd.wp Tryz.prog Q ⟨#[Z0,Z1,Z2,.map (some bm),Z4,.pointer (some ⟨mb, 0, none⟩),Z6,Z7,Z8,Z9,Za,Zb,Zc,Zd,Ze,Zf,Zg,Zh,Zi,Zj,Zk,Zl,Zm,Zn,Zo,Zp,Zq,Zr,Zs,Zt,Zu,Zv,Zw,Zx,Zy], dl⟩ X := by
  rw [show (Tryz.f61.body.bind (regionOf 6)) = some (Code.region 6 _ true) from rfl] at hcd
  obtain rfl := Option.some.inj hcd
  clear hcd
  dsimp only at hQ ⊢
  have hmbd : Box X.drew mb _ _ := hmb
  obtain ⟨c, hat, hwc, hlk, st, w1, hme, hg1, hs1, hlk1, hback⟩ := entry_int (ownsMap_draw hown) placePLaw hM Tryz.underlying109 Tryz.underlying3 (zeroIntG) hnn (placeP_key hp) (plit_key (true, m.cr))
  have HB := Lib.hid hback
  have HAT := Lib.hid hat
  have HG1 := Lib.hid hg1
  clear hback hat hnn hM
  have D1 := hmbd.c6'.2.2.2.2.1
  have D3 := hmbd.c6'.2.2.2.2.2
  have hm1 := hmbd.grown hg1 (fun e => by have := Option.some.inj e; omega)
  have D1' := hm1.c6'.2.2.2.2.1
  have D3' := hm1.c6'.2.2.2.2.2
  have HLD := Lib.hid hlk
  clear hlk
  refine wp_region_noPanic ?_
  refine wp_region_any (by kernel_rfl) ?_
  refine wpAny_of_L (S := (fun (ls : Array Bool) (w' : World) => ls.getD 10 true = false → w'.cell? ⟨mb, 4, none⟩ = some (.int .i64 m.cr) ∧ w'.cell? ⟨mb, 5, none⟩ = some (.int .i64 m.wk) ∧ (Instr.lookup 109 (.map (some bm)) (plv (true, m.cr)) false).run Tryz.prog w' = .ok (.int .i64 c) w')) _ _ _ _ ?_
  change wpAnyL Tryz.prog _ _ _ _ _ _ _ X.drew
  have hlk0 : (Instr.lookup 109 (.map (some bm)) (plv (true, m.cr)) false).run Tryz.prog X.drew = .ok (.int .i64 c) X.drew := HLD.out
  refine wpAnyL_take (i := 0) (q := 10) (v := .map (some bm)) (fun w' => True) rfl (by kernel_rfl) (by kernel_rfl) (by kernel_rfl) (fun c a w h => h) rfl (by kernel_rfl) (by decide) (fun ls w => by simp) (fun ls w h1 h2 => trivial) rfl rfl (fun w h => by go_simp) (fun _ => ⟨D1, D3, hlk0⟩) ?_
  try simp only [Act.put]
  refine wpAnyL_take (i := 1) (q := 10) (v := .pointer (some ⟨mb, 4, none⟩)) (fun w' => True) rfl (by kernel_rfl) (by kernel_rfl) (by kernel_rfl) (fun c a w h => h) rfl (by kernel_rfl) (by decide) (fun ls w => by simp) (fun ls w h1 h2 => trivial) rfl rfl (fun w h => by go_simp) (fun _ => ⟨D1, D3, hlk0⟩) ?_
  try simp only [Act.put]
  refine wpAnyL_take (i := 2) (q := 10) (v := .int .i64 m.cr) (fun w' => w'.cell? ⟨mb, 4, none⟩ = some (.int .i64 m.cr)) rfl (by kernel_rfl) (by kernel_rfl) (by kernel_rfl) (fun c a w h => h) rfl (by kernel_rfl) (by decide) (fun ls w => by simp) (fun ls w h1 h2 => (h2 h1).1) rfl rfl (fun w h => by go_simp) (fun _ => ⟨D1, D3, hlk0⟩) ?_
  try simp only [Act.put]
  refine wpAnyL_take (i := 3) (q := 10) (v := plv (true, m.cr)) (fun w' => True) rfl (by kernel_rfl) (by kernel_rfl) (by kernel_rfl) (fun c a w h => h) rfl (by kernel_rfl) (by decide) (fun ls w => by simp) (fun ls w h1 h2 => trivial) rfl rfl (fun w h => by go_simp) (fun _ => ⟨D1, D3, hlk0⟩) ?_
  try simp only [Act.put]
  refine wpAnyL_take (i := 4) (q := 10) (v := .int .i64 c) (fun w' => (Instr.lookup 109 (.map (some bm)) (plv (true, m.cr)) false).run Tryz.prog w' = .ok (.int .i64 c) w') rfl (by kernel_rfl) (by kernel_rfl) (by kernel_rfl) (fun c a w h => h) rfl (by kernel_rfl) (by decide) (fun ls w => by simp) (fun ls w h1 h2 => (h2 h1).2.2) rfl rfl (fun w h => by go_simp) (fun _ => ⟨D1, D3, hlk0⟩) ?_
  try simp only [Act.put]
  refine wpAnyL_take (i := 5) (q := 10) (v := .pointer (some ⟨mb, 5, none⟩)) (fun w' => True) rfl (by kernel_rfl) (by kernel_rfl) (by kernel_rfl) (fun c a w h => h) rfl (by kernel_rfl) (by decide) (fun ls w => by simp) (fun ls w h1 h2 => trivial) rfl rfl (fun w h => by go_simp) (fun _ => ⟨D1, D3, hlk0⟩) ?_
  try simp only [Act.put]
  refine wpAnyL_take (i := 6) (q := 10) (v := .int .i64 m.wk) (fun w' => w'.cell? ⟨mb, 5, none⟩ = some (.int .i64 m.wk)) rfl (by kernel_rfl) (by kernel_rfl) (by kernel_rfl) (fun c a w h => h) rfl (by kernel_rfl) (by decide) (fun ls w => by simp) (fun ls w h1 h2 => (h2 h1).2.1) rfl rfl (fun w h => by go_simp) (fun _ => ⟨D1, D3, hlk0⟩) ?_
  try simp only [Act.put]
  refine wpAnyL_take (i := 7) (q := 10) (v := .int .i64 (IntKind.i64.wrap (c + m.wk))) (fun w' => True) rfl (by kernel_rfl) (by kernel_rfl) (by kernel_rfl) (fun c a w h => h) rfl (by kernel_rfl) (by decide) (fun ls w => by simp) (fun ls w h1 h2 => trivial) rfl rfl (fun w h => by go_simp) (fun _ => ⟨D1, D3, hlk0⟩) ?_
  try simp only [Act.put]
  refine wpAnyL_one (i := 8) (by kernel_rfl) ?_
  refine wpOp_K (fun K hK => ?_)
  refine wpOp_one rfl rfl ?_
  go_simp
  refine hK _ _ ⟨(fun _ => ⟨D1', D3', hlk1⟩), ?_⟩
  clear hK K
  try simp only [Act.put]
  refine wpAnyL_one (i := 9) (by kernel_rfl) ?_
  refine wpOp_K (fun K hK => ?_)
  refine wpOp_one rfl rfl ?_
  go_simp
  refine hK _ _ ⟨(fun _ => ⟨D1', D3', hlk1⟩), ?_⟩
  clear hK K
  try simp only [Act.put]
  refine wpAnyL_one (i := 10) (by kernel_rfl) ?_
  refine wpOp_K (fun K hK => ?_)
  refine wpOp_one rfl rfl ?_
  obtain ⟨w3, hes, hown3, hg3⟩ := HB.out w1 (IntKind.i64.wrap (c + m.wk)) (wf_wrap _) rfl
  replace hes : (Instr.entryStore 109 (.map (some bm)) (.int .i64 (st : Int)) (.int .i64 (IntKind.i64.wrap (c + m.wk)))).run Tryz.prog w1 = .ok () w3 := hes
  go_simp
  refine hK _ _ ⟨(fun h => absurd h (by simp)), ?_⟩
  clear hK K
  try simp only [Act.put]
  refine wpAnyL_done (by kernel_rfl) (NoPanic.normal ?_) _
  exact hQ _ _ _ _ _ _ _ _ _ _ _ c HAT.out hown3 (grown_drew (HG1.out.trans hg3))
theorem M.sumW_step (l : List Mv) (m : Mv) (p : M.Pl) : M.sumW (l ++ [m]) p = if p = M.plc m false then M.sumW l p + M.wkN m else if p = M.plc m true then M.sumW l p + M.wkN m else M.sumW l p := by
  rw [M.sumW_snoc]
  obtain ⟨c, x⟩ := p
  cases c
  · by_cases h : M.plc m false = (false, x)
    · rw [if_pos h, if_pos h.symm]
    · rw [if_neg h, if_neg (fun e => h e.symm), if_neg (fun e => by rw [M.plc_t] at e; cases e)]; rfl
  · by_cases h : M.plc m true = (true, x)
    · rw [if_pos h, if_neg (fun e => by rw [M.plc_f] at e; cases e), if_pos h.symm]
    · rw [if_neg h, if_neg (fun e => by rw [M.plc_f] at e; cases e), if_neg (fun e => h e.symm)]; rfl
set_option maxHeartbeats 32000000 in
theorem loads_ok (LA : Option Addr) (lc : Nat) (l : List Mv) (w : World) (hL : Sl 6 mvcell w w.heap.size LA l) (hm : M.mvsOk l) :
    Calls Tryz.prog 61 #[.slice LA l.length lc] w fun e w' => ∃ bm nn D, e = .returned (.map (some bm)) ∧ w.heap.size ≤ bm ∧ w'.ownsMap Tryz.prog 113 (plainElem (H := Unit) Tryz.prog 3) bm nn D ∧ nn ≤ 2000 ∧ SumD D (M.sumW l) (l.flatMap M.plcs) ∧ Below w.heap.size w w' := by
  have hl := hm.1
  have HM := Lib.hid hm
  have hmm := @run_makeMap Tryz.prog
  obtain ⟨U, HU⟩ : ∃ U, Hid (w.alloc (.map #[] 0) = U) := ⟨_, Lib.hid rfl⟩
  have hU := HU.out
  have hbU : Below w.heap.size w U := by rw [← hU]; exact (Below.refl _ _).alloc (Nat.le_refl _) _
  have hown : U.ownsMap Tryz.prog 113 (plainElem (H := Unit) Tryz.prog 3) w.heap.size 0 (.map []) := by rw [← hU]; exact World.ownsMap_made _ _ _ _
  clear hm
  go_enter Tryz.func61, Tryz.ntmps61
  go_wp2_with fail
  clear hU hmm
  go_loopw [5, 9] (fun _ i wr => ∃ (k nn : Nat) (D : DataW Unit), k ≤ l.length ∧ nn ≤ 2 * k ∧ i = .int .i64 k ∧ Below w.heap.size w wr ∧ wr.ownsMap Tryz.prog 113 (plainElem (H := Unit) Tryz.prog 3) w.heap.size nn D ∧ Hid (SumD D (M.sumW (l.take k)) ((l.take k).flatMap M.plcs))) (fun _ i _ => l.length - (intOf i).toNat)
  case atStart => exact ⟨0, 0, .map [], Nat.zero_le _, Nat.le_refl _, rfl, hbU, hown, Lib.hid (SumD.start)⟩
  case round =>
    clear hown
    obtain ⟨k, nn, D, hk, hnn, rfl, hBr, hown, HS⟩ := hrel
    by_cases hlt : k < l.length
    · obtain ⟨la, hla, hlb, a0, a1, a2, a3, a4, a5⟩ := ((hL.below hBr).more (B' := wr.heap.size) hBr.size).mv6 hlt
      have HTK : Hid (l.take (k + 1) = l.take k ++ [l[k]]) := Lib.hid (List.take_succ_eq_append_getElem hlt)
      have hmk := HM.out.2.1 l[k] (List.getElem_mem hlt)
      have hp1 := M.plc_le hmk false
      have hp2 := M.plc_le hmk true
      obtain ⟨hw1, hw2, hw3⟩ := M.wkN_le hmk
      have HPS : Hid (∀ q ∈ (l.take k).flatMap M.plcs, M.PlOk q) := Lib.hid (fun q hq => by
        obtain ⟨m, h1, h2⟩ := List.mem_flatMap.1 hq
        have h3 := HM.out.2.1 m (List.mem_of_mem_take h1)
        unfold M.plcs at h2
        rcases List.mem_cons.1 h2 with rfl | h2
        · exact M.plc_le h3 false
        · rw [List.mem_singleton.1 h2]; exact M.plc_le h3 true)
      have hsw : ∀ p, M.sumW (l.take k) p ≤ 26624 := fun p => Nat.le_trans (M.sumW_le _ _) (Nat.le_trans (M.sum_wk_le (fun m h => HM.out.2.1 m (List.mem_of_mem_take h))) (by simp; omega))
      have HSW := Lib.hid hsw
      have HW3 := Lib.hid hw3
      have x0 : (0 : Int) ≤ (k : Int) := by omega
      have y0 : (k : Int) < (l.length : Int) := by omega
      have q0 : decide ((k : Int) < (l.length : Int)) = true := decide_eq_true y0
      clear hmk hsw hw3
      generalize l[k] = m at *
      replace hp1 : M.PlOk (false, m.tw) := hp1
      replace hp2 : M.PlOk (true, m.cr) := hp2
      generalize hsl : M.sumW (l.take k) = sw at *
      have HSL := Lib.hid hsl
      clear hsl
      generalize hpq : (l.take k).flatMap M.plcs = ps at *
      have HPQ := Lib.hid hpq
      clear hpq
      obtain ⟨X, HX, u0, hbX, -⟩ := boxes1 wr (mvc m) 66
      have BX := after_ hBr hbX
      have hownX := hown.kept (below_grown hbX) (by simp)
      have hbmX : w.heap.size < wr.heap.size := hown.lt
      obtain ⟨u1, u2, u3, u4, u5, u6⟩ := u0.c6'
      have hX := HX.out
      subst hla
      go_wp2_with fail
      clear hX
      refine loads_reg5 (m := m) hownX HS.out.map (by unfold maxLen; omega) hp1 u0 (by omega) (by kernel_rfl) ?_
      intro z13 z14 z15 z16 z17 z18 z19 z20 z21 z22 w5 c5 hat5 hown5 hg5
      rw [HS.out.hit _ hp1] at hat5
      obtain rfl : ((sw (false, m.tw) : Nat) : Int) = c5 := by injection hat5 with h1; injection h1
      have hs5 := HSW.out (false, m.tw)
      have hwr5 : IntKind.i64.wrap ((sw (false, m.tw) : Int) + m.wk) = ((sw (false, m.tw) + M.wkN m : Nat) : Int) := by
        have := HW3.out
        rw [IntWalk.i64_left, IntWalk.wrap64_in _ (by omega)]; omega
      have S5 := HS.out.put HPS.out hp1 (g' := fun q => if q = M.plc m false then sw q + M.wkN m else sw q) (x := IntKind.i64.wrap ((sw (false, m.tw) : Int) + m.wk)) (by rw [hwr5]; simp [M.plc_f]) (fun q hq => by rw [if_neg (fun e => hq (by rw [e, M.plc_f]))])
      have HS5 := Lib.hid S5
      have v0 := u0.grown hg5 (fun e => by have := Option.some.inj e; omega)
      have B5 : Below w.heap.size w w5 := BX.grown hg5 BX.size (fun j e => by cases e; exact Nat.le_refl _)
      clear S5 hwr5 hat5 hs5
      dsimp only
      go_wp2_with fail
      refine loads_reg6 (m := m) hown5 HS5.out.map (by unfold maxLen; omega) hp2 v0 (by omega) (by kernel_rfl) ?_
      intro z23 z24 z25 z26 z27 z28 z29 z30 z31 z32 w6 c6 hat6 hown6 hg6
      rw [HS5.out.hit _ hp2] at hat6
      have hne : ¬ ((true, m.cr) : M.Pl) = M.plc m false := fun e => by rw [M.plc_f] at e; cases e
      rw [if_neg hne] at hat6
      obtain rfl : ((sw (true, m.cr) : Nat) : Int) = c6 := by injection hat6 with h1; injection h1
      have hs6 := HSW.out (true, m.cr)
      have hwr6 : IntKind.i64.wrap ((sw (true, m.cr) : Int) + m.wk) = ((sw (true, m.cr) + M.wkN m : Nat) : Int) := by
        have := HW3.out
        rw [IntWalk.i64_left, IntWalk.wrap64_in _ (by omega)]; omega
      have S6 := HS5.out.put (fun q hq => by
        rcases List.mem_append.1 hq with h1 | h1
        · exact HPS.out q h1
        · rw [List.mem_singleton.1 h1]; exact hp1) hp2 (g' := M.sumW (l.take (k + 1))) (x := IntKind.i64.wrap ((sw (true, m.cr) : Int) + m.wk)) (by rw [hwr6, HTK.out, M.sumW_step, if_neg hne, if_pos (M.plc_t m).symm, HSL.out]) (fun q hq => by
          rw [HTK.out, M.sumW_step, HSL.out]
          by_cases e : q = M.plc m false
          · rw [if_pos e, if_pos e]
          · rw [if_neg e, if_neg e, if_neg (fun e2 => hq (by rw [e2, M.plc_t]))])
      have HPE : Hid ((ps ++ [(false, m.tw)]) ++ [(true, m.cr)] = (l.take (k + 1)).flatMap M.plcs) := Lib.hid (by rw [HTK.out, List.flatMap_append, HPQ.out]; simp [M.plcs, M.plc])
      rw [HPE.out] at S6
      have HS6 := Lib.hid S6
      have B6 : Below w.heap.size w w6 := B5.grown hg6 B5.size (fun j e => by cases e; exact Nat.le_refl _)
      dsimp only
      go_wp2_with fail
      go_roundw
      case rel => exact ⟨k + 1, nn + 1 + 1, _, hlt, by omega, by go_num, B6, hown6, HS6⟩
      case measure => simp [intOf]; omega
    · obtain rfl : k = l.length := by omega
      have q0 : decide ((l.length : Int) < (l.length : Int)) = false := decide_eq_false (by omega)
      have hS := HS.out
      rw [List.take_length] at hS
      go_wp2_with fail
      go_ret
      exact ⟨w.heap.size, nn, D, rfl, Nat.le_refl _, hown, by omega, hS, hBr⟩
end Go.Proofs.YtpkepgcmifdpfaaGreatDoor
end

section
namespace Go.Proofs.YtpkepgcmifdpfaaGreatDoor
open Go Go.RowKit Go.Maps
set_option maxRecDepth 100000
namespace M
theorem stPl_mem {t : Tr} (h : trGood t) {p : Pl} (hp : p ∈ t.l.flatMap plcs) : p ∈ stPl t.T t.C ∧ PlOk p ∧ 1 ≤ pcap t.T t.C p ∧ pcap t.T t.C p ≤ 64 := by
  obtain ⟨m, h1, h2⟩ := List.mem_flatMap.1 hp
  have hc := h.2.2 m h1
  have hok := h.1.1.2.1 m h1
  have hb := fun c => pcap_pos h.tw h.2.2 h1 c
  unfold plcs at h2
  rcases List.mem_cons.1 h2 with rfl | h2
  · refine ⟨List.mem_append.2 (.inl ?_), plc_le hok false, hb false⟩
    rcases cap_cases t.T m.tw with ⟨h3, -⟩ | ⟨k, hk, h3, -⟩
    · exact absurd h3 hc.1
    · exact List.mem_map.2 ⟨_, List.getElem_mem hk, by rw [h3]; rfl⟩
  · rw [List.mem_singleton.1 h2]
    refine ⟨List.mem_append.2 (.inr ?_), plc_le hok true, hb true⟩
    rcases cap_cases t.C m.cr with ⟨h3, -⟩ | ⟨k, hk, h3, -⟩
    · exact absurd h3 hc.2
    · exact List.mem_map.2 ⟨_, List.getElem_mem hk, by rw [h3]; rfl⟩
theorem least_up {t : Tr} {p : Pl} (hp : p ∈ t.l.flatMap plcs) : upP t p ≤ leastN t := by
  obtain ⟨m, h1, h2⟩ := List.mem_flatMap.1 hp
  have h3 := (leastN_le.1 (Nat.le_refl (leastN t))).2 m h1
  unfold plcs at h2
  rcases List.mem_cons.1 h2 with rfl | h2
  · exact h3.1
  · rw [List.mem_singleton.1 h2]; exact h3.2
theorem least_of {t : Tr} {n : Nat} (h0 : upN t.l.length t.lm.toNat ≤ n) (h1 : n ≤ leastN t) (h2 : ∀ p ∈ t.l.flatMap plcs, upP t p ≤ n) : n = leastN t := by
  refine Nat.le_antisymm h1 (leastN_le.2 ⟨h0, fun m hm => ⟨h2 _ ?_, h2 _ ?_⟩⟩)
  · exact List.mem_flatMap.2 ⟨m, hm, by simp [plcs]⟩
  · exact List.mem_flatMap.2 ⟨m, hm, by simp [plcs]⟩
end M
set_option maxHeartbeats 32000000 in
theorem least_ok (b : Nat) (a : TrA) (t : Tr) (w : World) (h : MD w b a t) :
    Calls Tryz.prog 32 #[.pointer (some ⟨b, 0, none⟩)] w fun e w' => e = .returned (.int .i64 (M.leastN t : Nat)) ∧ Below w.heap.size w w' := by
  obtain ⟨bv, nv, bs, ns, Dv, Ds, xb, hov, hMv, hos, hPs⟩ := h.ex
  have HG := Lib.hid h.good
  have HPS := Lib.hid hPs
  have hlm1 := h.good.1.2.2.2.1
  have hlm2 := h.good.1.2.2.2.2.1
  have hlw1 := h.good.1.2.2.2.2.2.1
  have hlw2 := h.good.1.2.2.2.2.2.2
  have hl512 := h.good.1.1.1
  have kU := Lib.hid (fun u : Kept w.heap.size w => up_ok t.l.length t.lm u.val ⟨hlm1, by omega⟩ (by omega))
  have HSW : Hid (∀ p, M.sumW t.l p ≤ 26624) := Lib.hid (fun p => Nat.le_trans (M.sumW_le _ _) (Nat.le_trans (M.sum_wk_le h.good.1.1.2.1) (by omega)))
  obtain ⟨c0, c1, c2, c3, c4, c5⟩ : w.cell? ⟨b, 0, none⟩ = some _ ∧ w.cell? ⟨b, 1, none⟩ = some _ ∧ w.cell? ⟨b, 2, none⟩ = some _ ∧ w.cell? ⟨b, 3, none⟩ = some _ ∧ w.cell? ⟨b, 4, none⟩ = some _ ∧ w.cell? ⟨b, 5, none⟩ = some _ := ⟨xb.cell 0 rfl, xb.cell 1 rfl, xb.cell 2 rfl, xb.cell 3 rfl, xb.cell 4 rfl, xb.cell 5 rfl⟩
  have lb := xb.lt
  clear hMv hPs hov
  go_enter Tryz.func32, Tryz.ntmps32
  go_wp2_with fail
  refine wp_region_kept w.heap.size w (by kernel_rfl) (by kernel_rfl) (Below.refl _ _) ?_
  repeat (go_big_quiet_step ((go_at_call 60; with_reducible exact Kept.same (kU.out _))))
  refine wpQuiet_nil ?_
  rintro w1 ⟨⟨w1x, hb1⟩, hw1⟩
  dsimp only at hw1
  subst hw1
  have h1 := h.next hb1
  have kL := loads_ok a.L a.l t.l w1 h1.tr.L HG.out.1.1
  have d1 := (xb.below hb1).cell 1 rfl
  clear c0 c1 c2 c3 c4 c5
  go_wp2_with fail
  refine kL.mono ?_
  rintro e w2 ⟨bm, nn, D, rfl, hbm, hown, hnn, hS, hb2⟩
  clear kL d1
  have HS := Lib.hid hS
  have B2 := after_ hb1 hb2
  clear hS
  have hbm2 := hown.lt
  go_wp2_with (at_range; refine wpList_range_own _ rfl _ 109 rfl 113 3 placePKeyed Tryz.underlying109 (plainElem (H := Unit) Tryz.prog 3) bm nn D rfl hown ?_; intro wR hrgR hgR hsR)
  go_frame
  have HSR := Lib.hid hsR
  clear hsR
  have BR : Below w2.heap.size w2 wR := (Below.refl _ _).grown hgR (Nat.le_refl _) (fun k e => by cases e)
  have HUP : Hid (M.upN t.l.length t.lm.toNat ≤ M.leastN t) := Lib.hid (M.leastN_le.1 (Nat.le_refl _)).1
  generalize hu0 : M.upN t.l.length t.lm.toNat = n0 at *
  have HU0 := Lib.hid hu0
  clear hu0
  generalize hr0 : w2.heap.size = r0 at *
  have HR0 := Lib.hid hr0
  clear hr0
  go_loopw [3, 4, 5] (fun s3 _ _ wr => ∃ (left : Lit → Bool) (cnt n : Nat), s3 = .int .i64 (n : Nat) ∧ wr.ranges Tryz.prog 113 (plainElem (H := Unit) Tryz.prog 3) bm r0 nn D left cnt ∧ Below r0 w2 wr ∧ r0 ≤ wr.heap.size ∧ Hid (n0 ≤ n ∧ n ≤ M.leastN t) ∧ Hid (∀ p ∈ t.l.flatMap M.plcs, left (plit p) = false → M.upP t p ≤ n) ∧ Hid (∀ kl, left kl = true → Maps.has D kl = true)) (fun _ _ _ wr => wr.rangeLeft bm r0)
  case atStart => exact ⟨_, _, _, rfl, hrgR, BR, by rw [HSR.out]; omega, Lib.hid ⟨Nat.le_refl _, HUP.out⟩, Lib.hid (fun p hp hl => by have := (HS.out.has p hp).1; rw [this] at hl; cases hl), Lib.hid (fun kl h => h)⟩
  case round =>
    clear hrgR BR hgR
    obtain ⟨left, cnt, n, rfl, hrg, hBr, hrs, HN, HLP, HLF⟩ := hrel
    go_wp2_with (at_next; refine wpList_next_ranges _ rfl _ rfl 113 placePKeyed (plainElem (H := Unit) Tryz.prog 3) id (Value.int .i64) (fun key kl h => ⟨key, rfl⟩) (fun v y h => by obtain ⟨c, rfl, -⟩ := plainElem_int_inv Tryz.underlying3 h; exact ⟨c, rfl⟩) bm r0 nn D left cnt rfl hrg ?hDone ?hMore)
    case hDone =>
      intro hc0 hl0
      have HE : Hid (n = M.leastN t) := Lib.hid (M.least_of (by rw [HU0.out]; exact HN.out.1) HN.out.2 (fun p hp => HLP.out p hp (hl0 _)))
      clear hl0
      go_wp2_with fail
      go_ret
      exact ⟨by rw [← HE.out]; rfl, B2.trans (hBr.mono (by rw [← HR0.out]; exact B2.size))⟩
    case hMore =>
      intro x c kl y1 y2 w4 cnt2 hkey hleft hR hat hrg4 hlt4 hg4 hs4 hen
      obtain ⟨p, hpm, hpo, rfl⟩ := HS.out.keys kl (HLF.out kl hleft)
      obtain ⟨hpst, -, hcp1, hcp2⟩ := M.stPl_mem HG.out hpm
      have hx : x = plv p := placePKeyed.inj hkey (placeP_key hpo)
      have hc : c = (M.sumW t.l p : Nat) := by
        obtain ⟨c', e1, e2, -⟩ := plainElem_int_inv Tryz.underlying3 hR
        cases e1
        have h3 := hat (.lit (.int .i64 0))
        have e3 : y1 = .lit (.int .i64 c) := congrArg Prod.fst e2
        rw [(HS.out.has p hpm).2, e3] at h3
        injection h3 with h4
        injection h4 with _ h5
        exact h5.symm
      have BW4 : Below r0 w2 w4 := hBr.grown hg4 hrs (fun k e => by cases e; exact Nat.le_refl _)
      have HLF4 : Hid (∀ kl, (left kl && !kl.sameKey (plit p)) = true → Maps.has D kl = true) := Lib.hid (fun kl h => by rw [Bool.and_eq_true] at h; exact HLF.out kl h.1)
      have HUPP := Lib.hid (M.least_up hpm)
      have HLP4 : Hid (∀ n', n ≤ n' → M.upP t p ≤ n' → ∀ q ∈ t.l.flatMap M.plcs, (left (plit q) && !(plit q).sameKey (plit p)) = false → M.upP t q ≤ n') := Lib.hid (fun n' h1 h2 q hq hl => by
        by_cases e : q = p
        · rw [e]; exact h2
        · have hne : plit q ≠ plit p := fun e2 => e (plit_inj (M.stPl_mem HG.out hq).2.1 hpo e2)
          rw [sameKey_ne hne] at hl
          exact Nat.le_trans (HLP.out q hq (by simpa using hl)) h1)
      have hsw := HSW.out p
      have HPST := Lib.hid hpst
      have HS4 := Lib.hid hs4
      clear hat hR hkey hleft HLF HLP hpst hs4
      subst hx hc
      try dsimp only [id] at hen
      try dsimp only [id]
      obtain ⟨X, HX, u4, hbX, -⟩ := boxes1 w4 #[.bool p.1, .int .i64 p.2] 113
      have BX : Below r0 w2 X := BW4.trans (hbX.mono (by rw [HS4.out]; exact hrs))
      have hrX := hrg4.kept (below_grown hbX) (by simp) (by simp)
      have hwX : Below w.heap.size w X := B2.trans (BX.mono (by rw [← HR0.out]; exact B2.size))
      have xbX := xb.below hwX
      have hosX := hos.kept (below_grown hwX) (by simp)
      have HUU : Hid (M.upN (M.sumW t.l p) (M.pcap t.T t.C p * t.lw).toNat = M.upP t p) := Lib.hid rfl
      have hmb : 1 ≤ M.pcap t.T t.C p * t.lw ∧ M.pcap t.T t.C p * t.lw ≤ 67108864 := by
        constructor
        · exact Int.le_trans (by omega) (Int.mul_le_mul hcp1 hlw1 (by omega) (by omega))
        · exact Int.le_trans (Int.mul_le_mul hcp2 hlw2 (by omega) (by omega)) (by omega)
      have hmul : IntKind.i64.wrap (M.pcap t.T t.C p * t.lw) = M.pcap t.T t.C p * t.lw := by rw [IntWalk.i64_left]; exact IntWalk.wrap64_in _ (by omega)
      have lkS : ∀ u : Kept X.heap.size X, (Instr.lookup 109 (.map (some bs)) (plv p) false).run Tryz.prog u.val = .ok (.int .i64 (M.pcap t.T t.C p)) u.val := fun u => by
        obtain ⟨cu, hlu, hau, -⟩ := (hosX.kept (below_grown u.h) (by simp)).lookup_int placePKeyed Tryz.underlying109 Tryz.underlying3 (zeroIntG u.val) (placeP_key hpo)
        rw [(HPS.out.hit p HPST.out).2] at hau
        obtain rfl : M.pcap t.T t.C p = cu := by injection hau with h2; injection h2
        exact hlu
      generalize M.sumW t.l p = sp at *
      generalize M.pcap t.T t.C p = cp at *
      have kU2 := Lib.hid (fun u : Kept X.heap.size X => up_ok sp (cp * t.lw) u.val ⟨hmb.1, by omega⟩ (by omega))
      rw [HUU.out] at kU2
      generalize hup : M.upP t p = up at *
      clear hup HUU
      have hmx : (if (n : Int) < (up : Int) then (up : Int) else (n : Int)) = ((max n up : Nat) : Int) := by split <;> omega
      have d5 := xbX.cell 5 rfl
      have d7 := xbX.cell 7 rfl
      obtain ⟨e0, e1⟩ := u4.c2
      have l4 := u4.lt
      have lbX := xbX.lt
      have hX := HX.out
      go_wp2_with fail
      clear hX hen
      refine wp_region_kept X.heap.size X (by kernel_rfl) (by kernel_rfl) (Below.refl _ _) ?_
      repeat (go_big_quiet_step ((go_at_call 60; with_reducible exact Kept.same (kU2.out _))))
      refine wpQuiet_nil ?_
      rintro w5 ⟨⟨w5', hb5⟩, hw5⟩
      dsimp only at hw5
      subst hw5
      clear lkS d5 d7 e0 e1
      have BW5 : Below r0 w2 w5 := BX.trans (hb5.mono (Nat.le_trans (by rw [← HS4.out] at hrs; exact hrs) hbX.size))
      have hr5 := hrX.kept (below_grown hb5) (by simp) (by simp)
      have hrs5 : r0 ≤ w5.heap.size := Nat.le_trans (by rw [← HS4.out] at hrs; exact hrs) (Nat.le_trans hbX.size hb5.size)
      have hn1 := HN.out.1
      have hn2 := HN.out.2
      have hu2 := HUPP.out
      have HN5 : Hid (n0 ≤ max n up ∧ max n up ≤ M.leastN t) := Lib.hid ⟨by omega, by omega⟩
      have HLP5 := Lib.hid (HLP4.out (max n up) (by omega) (by omega))
      clear hn1 hn2 hu2
      go_wp2_with fail
      go_roundw
      case rel => exact ⟨_, _, max n up, congrArg (Value.int .i64) (by omega), hr5, BW5, hrs5, HN5, HLP5, HLF4⟩
      case measure => rw [hr5.left_eq, hrg.left_eq]; exact hlt4
set_option maxHeartbeats 16000000 in
theorem Bound_ok (a : TrA) (t : Tr) (w : World) (ht : TrM w a t) :
    Calls Tryz.prog 11 #[trV a t] w fun e w' => (∃ er, M.trIs t er ∧ ((er ≠ 0 ∧ e = .returned (.tuple #[.int .i64 0, .int .i64 er])) ∨ (er = 0 ∧ e = .returned (.tuple #[.int .i64 (M.leastN t : Nat), .int .i64 0])))) ∧ Below w.heap.size w w' := by
  obtain ⟨X, HX, x0, hB, -⟩ := boxes1 w (trc a t) 28
  have hX := HX.out
  have tx := ht.next hB
  obtain ⟨c0, c1, c2, c3, c4, c5⟩ := x0.c6
  have kB := build_ok a t X tx
  go_enter Tryz.func11, Tryz.ntmps11
  go_wp2_with fail
  clear hX c0 c1 c2 c3 c4 c5
  refine kB.mono ?_
  rintro e w1 ⟨⟨er, her, hc⟩, hb1⟩
  clear kB
  have B1 := after_ hB hb1
  have HER := Lib.hid her
  clear her
  rcases hc with ⟨hne, rfl⟩ | ⟨rfl, b, rfl, hbb, hm⟩
  · have q0 : (er == 0) = false := by simpa using hne
    have q1 : (er != 0) = true := by simpa using hne
    have HE0 := Lib.hid hne
    clear hne
    go_wp2_with fail
    go_ret2
    exact ⟨⟨er, HER.out, .inl ⟨HE0.out, rfl⟩⟩, B1⟩
  have kS := least_ok b a t w1 hm
  go_wp2_with fail
  refine kS.mono ?_
  rintro e w2 ⟨rfl, hb2⟩
  go_wp2_with fail
  go_ret2
  exact ⟨⟨0, HER.out, .inr ⟨rfl, rfl⟩⟩, after_ B1 hb2⟩
end Go.Proofs.YtpkepgcmifdpfaaGreatDoor
end

section
namespace Go.Proofs.YtpkepgcmifdpfaaGreatDoor
open Go Go.RowKit Go.Maps
set_option maxRecDepth 100000
theorem Sl.sl1 {w : World} {B : Nat} {A : Option Addr} {ls : List SLc} {k : Nat} (h : Sl 1 slcell w B A ls) (hk : k < ls.length) : ∃ ad, A = some ad ∧ (ad.add k).block < B ∧ w.cell? (ad.add k) = some (.slice ls[k].A ls[k].xs.length ls[k].c) := by
  obtain ⟨ad, e, hb, hc⟩ := h k hk
  refine ⟨ad, e, by rw [add_block]; exact hb, ?_⟩
  have := hc 0 (by decide)
  rw [Nat.mul_one, Nat.add_zero] at this
  exact this
def PlanOk (os : List SLc) : Prop := os.length ≤ 1000000 ∧ ∀ s ∈ os, s.xs.length ≤ 1000000 ∧ ∀ x ∈ s.xs, M.W64 x
theorem MD.legal {w : World} {b : Nat} {a : TrA} {t : Tr} (h : MD w b a t) (ht : Tab64 w) (OA : Option Addr) (oc : Nat) (os : List SLc) (hO : LL w OA os) (ho : PlanOk os) :
    Calls Tryz.prog 67 #[.slice a.P t.ps.length a.p, .slice a.L t.l.length a.l, .slice OA os.length oc] w fun e w' => e = .returned (.int .i64 (M.legal t.ps t.l (os.map (·.xs)))) ∧ Below w.heap.size w w' := by
  refine (legal_ok a.P a.p t.ps.length t.ps a.L a.l t.l OA oc os w ht rfl h.tr.P h.tr.L h.tr.hL h.tr.hw hO (by have := ho.1; omega) (fun s hs => ⟨by have := (ho.2 s hs).1; omega, (ho.2 s hs).2⟩)).mono ?_
  rintro e w' ⟨⟨er, her, hc⟩, hb⟩
  have h0 : er = 0 := by
    rcases her with ⟨-, -, h1⟩ | ⟨-, h1, -⟩ | ⟨h1, -⟩
    · exact h1
    · have := h.good.2.1; omega
    · exact absurd h.good.1.1 h1
  rcases hc with ⟨h1, -⟩ | ⟨-, rfl⟩
  · exact absurd h0 h1
  · exact ⟨rfl, hb⟩
set_option maxHeartbeats 32000000 in
theorem plan_ok (b : Nat) (a : TrA) (t : Tr) (OA : Option Addr) (oc : Nat) (os : List SLc) (w : World) (ht : Tab64 w) (h : MD w b a t) (hO : LL w OA os) (ho : PlanOk os) :
    Calls Tryz.prog 42 #[.pointer (some ⟨b, 0, none⟩), .slice OA os.length oc] w fun e w' => e = .returned (.int .i64 (M.phPlan t (os.map (·.xs)))) ∧ Below w.heap.size w w' := by
  obtain ⟨bv, nv, bs, ns, Dv, Ds, xb, -⟩ := h.ex
  obtain ⟨r, hr⟩ : ∃ r, M.phPlan t (os.map (·.xs)) = r := ⟨_, rfl⟩
  rw [hr]
  have HR := Lib.hid hr
  have HOO := Lib.hid ho
  have hol := ho.1
  have kG := Lib.hid (fun u : Kept w.heap.size w => (h.next u.h).legal (ht.kept u.h) OA oc os (hO.next u.h) ho)
  have c0 := xb.cell 0 rfl
  have c1 := xb.cell 1 rfl
  have lb := xb.lt
  obtain ⟨lg, hlg⟩ : ∃ lg, M.legal t.ps t.l (os.map (·.xs)) = lg := ⟨_, rfl⟩
  rw [hlg] at kG
  have HLG := Lib.hid hlg
  clear hr hlg ho
  go_enter Tryz.func42, Tryz.ntmps42
  go_wp2_with fail
  refine wp_region_kept w.heap.size w (by kernel_rfl) (by kernel_rfl) (Below.refl _ _) ?_
  repeat (go_big_quiet_step ((go_at_call 67; with_reducible exact Kept.calls (Nat.le_refl _) (kG.out _))))
  refine wpQuiet_nil ?_
  rintro w1 ⟨⟨w1', hb1⟩, hw1⟩
  dsimp only at hw1
  subst hw1
  clear c0 c1
  by_cases hne : lg = 0
  case neg =>
    have q0 : (lg == 0) = false := by simpa using hne
    have q1 : (lg != 0) = true := by simpa using hne
    have HE : Hid (lg = r) := Lib.hid (by rw [← HR.out]; unfold M.phPlan; rw [HLG.out, if_pos hne])
    clear hne
    go_wp2_with fail
    go_ret
    exact ⟨by rw [HE.out]; rfl, hb1⟩
  subst hne
  have HR2 : Hid ((if (os.map (·.xs)).all (fun s => !s.isEmpty) = true then (if (os.map (·.xs)).all (M.small t) = true then 0 else 490) else 2) = r) := Lib.hid (by rw [← HR.out]; unfold M.phPlan; rw [HLG.out, if_neg (show ¬ ((0 : Int) ≠ 0) by simp)])
  go_wp2_with fail
  go_loopw [7, 27] (fun _ i wr => ∃ k : Nat, k ≤ os.length ∧ i = .int .i64 k ∧ Below w.heap.size w wr ∧ Hid (∀ j (hj : j < os.length), j < k → os[j].xs ≠ [])) (fun _ i _ => os.length - (intOf i).toNat)
  case atStart => exact ⟨0, Nat.zero_le _, rfl, hb1, Lib.hid (fun j _ h => absurd h (by omega))⟩
  case round =>
    obtain ⟨k, hk, rfl, hBr, HN⟩ := hrel
    by_cases hlt : k < os.length
    · obtain ⟨la, hla, hlb, a0⟩ := (hO.next hBr).outer.sl1 hlt
      have x0 : (0 : Int) ≤ (k : Int) := by omega
      have y0 : (k : Int) < (os.length : Int) := by omega
      have q0 : decide ((k : Int) < (os.length : Int)) = true := decide_eq_true y0
      by_cases he : os[k].xs = []
      · have HF : Hid (2 = r) := Lib.hid (by
          rw [← HR2.out, if_neg]
          intro hall
          have := List.all_eq_true.1 hall os[k].xs (List.mem_map.2 ⟨os[k], List.getElem_mem hlt, rfl⟩)
          rw [he] at this
          cases this)
        rw [he] at a0
        clear he
        generalize os[k].A = sA at *
        generalize os[k].c = scp at *
        subst hla
        go_wp2_with fail
        go_ret
        exact ⟨by rw [← HF.out]; rfl, hBr⟩
      · have HE : Hid (∀ j (hj : j < os.length), j < k + 1 → os[j].xs ≠ []) := Lib.hid (fun j hj h => by
          by_cases e : j = k
          · subst e; exact he
          · exact HN.out j hj (by omega))
        have hl0 : os[k].xs.length ≠ 0 := fun e => he (List.eq_nil_of_length_eq_zero e)
        have q1 : ((os[k].xs.length : Int) == 0) = false := by simp; exact he
        clear he HN
        generalize hsn : os[k].xs.length = sn at *
        clear hsn
        generalize os[k].A = sA at *
        generalize os[k].c = scp at *
        subst hla
        go_wp2_with fail
        go_roundw
        case rel => exact ⟨k + 1, hlt, by go_num, hBr, HE⟩
        case measure => simp [intOf]; omega
    · obtain rfl : k = os.length := by omega
      have q0 : decide ((os.length : Int) < (os.length : Int)) = false := decide_eq_false (by omega)
      have HR3 : Hid ((if (os.map (·.xs)).all (M.small t) = true then 0 else 490) = r) := Lib.hid (by
        have hall : (os.map (·.xs)).all (fun s => !s.isEmpty) = true := by
          rw [List.all_eq_true]
          intro x hx
          obtain ⟨s, hs, rfl⟩ := List.mem_map.1 hx
          obtain ⟨j, hj, rfl⟩ := List.getElem_of_mem hs
          have := HN.out j hj hj
          cases e : os[j].xs with
          | nil => exact absurd e this
          | cons y ys => rfl
        exact (if_pos hall).symm.trans HR2.out)
      clear HN
      go_wp2_with fail
      go_loopw [9, 37] (fun _ i wr => ∃ k : Nat, k ≤ os.length ∧ i = .int .i64 k ∧ Below w.heap.size w wr ∧ Hid (∀ j (hj : j < os.length), j < k → M.small t os[j].xs = true)) (fun _ i _ => os.length - (intOf i).toNat)
      case atStart => exact ⟨0, Nat.zero_le _, rfl, hBr, Lib.hid (fun j _ h => absurd h (by omega))⟩
      case round =>
        clear hBr
        obtain ⟨k, hk, rfl, hBr, HN⟩ := hrel
        by_cases hlt : k < os.length
        · have hLr := hO.next hBr
          obtain ⟨la, hla, hlb, a0⟩ := hLr.outer.sl1 hlt
          have x0 : (0 : Int) ≤ (k : Int) := by omega
          have y0 : (k : Int) < (os.length : Int) := by omega
          have q1 : decide ((k : Int) < (os.length : Int)) = true := decide_eq_true y0
          obtain ⟨ho1, ho2⟩ := HOO.out.2 os[k] (List.getElem_mem hlt)
          have kS := small_ok b a t os[k].A os[k].c os[k].xs wr (h.next hBr) (hLr.inner _ (List.getElem_mem hlt)) ho1 ho2
          have HF : Hid (M.small t os[k].xs = false → 490 = r) := Lib.hid (fun e => by
            rw [← HR3.out, if_neg]
            intro hall
            have := List.all_eq_true.1 hall os[k].xs (List.mem_map.2 ⟨os[k], List.getElem_mem hlt, rfl⟩)
            rw [e] at this
            cases this)
          have HT : Hid (M.small t os[k].xs = true → ∀ j (hj : j < os.length), j < k + 1 → M.small t os[j].xs = true) := Lib.hid (fun e j hj h => by
            by_cases e2 : j = k
            · subst e2; exact e
            · exact HN.out j hj (by omega))
          clear HN ho1 ho2
          generalize M.small t os[k].xs = sm at *
          generalize os[k].xs.length = sn at *
          generalize os[k].A = sA at *
          generalize os[k].c = scp at *
          subst hla
          go_wp2_with fail
          refine kS.mono ?_
          rintro e w5 ⟨rfl, hb5⟩
          clear kS
          have B5 := after_ hBr hb5
          cases sm with
          | false =>
            have HF2 := Lib.hid (HF.out rfl)
            clear HF HT
            go_wp2_with fail
            go_ret
            exact ⟨by rw [← HF2.out]; rfl, B5⟩
          | true =>
            have HT2 := Lib.hid (HT.out rfl)
            clear HF HT
            go_wp2_with fail
            go_roundw
            case rel => exact ⟨k + 1, hlt, by go_num, B5, HT2⟩
            case measure => simp [intOf]; omega
        · obtain rfl : k = os.length := by omega
          have q1 : decide ((os.length : Int) < (os.length : Int)) = false := decide_eq_false (by omega)
          have HF : Hid (0 = r) := Lib.hid (by
            rw [← HR3.out, if_pos]
            rw [List.all_eq_true]
            intro x hx
            obtain ⟨s, hs, rfl⟩ := List.mem_map.1 hx
            obtain ⟨j, hj, rfl⟩ := List.getElem_of_mem hs
            exact HN.out j hj hj)
          go_wp2_with fail
          go_ret
          exact ⟨by rw [← HF.out]; rfl, hBr⟩
set_option maxHeartbeats 16000000 in
theorem Check_ok (a : TrA) (t : Tr) (OA : Option Addr) (oc : Nat) (os : List SLc) (w : World) (ht : Tab64 w) (hm : TrM w a t) (hO : LL w OA os) (ho : PlanOk os) :
    Calls Tryz.prog 20 #[trV a t, .slice OA os.length oc] w fun e w' => (∃ er, M.trIs t er ∧ ((er ≠ 0 ∧ e = .returned (.int .i64 er)) ∨ (er = 0 ∧ e = .returned (.int .i64 (M.phPlan t (os.map (·.xs))))))) ∧ Below w.heap.size w w' := by
  obtain ⟨X, HX, x0, hB, -⟩ := boxes1 w (trc a t) 28
  have hX := HX.out
  have tx := hm.next hB
  obtain ⟨c0, c1, c2, c3, c4, c5⟩ := x0.c6
  have kB := build_ok a t X tx
  have HOO := Lib.hid ho
  clear ho
  go_enter Tryz.func20, Tryz.ntmps20
  go_wp2_with fail
  clear hX c0 c1 c2 c3 c4 c5
  refine kB.mono ?_
  rintro e w1 ⟨⟨er, her, hc⟩, hb1⟩
  clear kB
  have B1 := after_ hB hb1
  have HER := Lib.hid her
  clear her
  rcases hc with ⟨hne, rfl⟩ | ⟨rfl, b, rfl, hbb, hmd⟩
  · have q0 : (er == 0) = false := by simpa using hne
    have q1 : (er != 0) = true := by simpa using hne
    have HE0 := Lib.hid hne
    clear hne
    go_wp2_with fail
    go_ret
    exact ⟨⟨er, HER.out, .inl ⟨HE0.out, rfl⟩⟩, B1⟩
  have kS := plan_ok b a t OA oc os w1 (ht.kept B1) hmd (hO.next B1) HOO.out
  go_wp2_with fail
  refine kS.mono ?_
  rintro e w2 ⟨rfl, hb2⟩
  go_wp2_with fail
  go_ret
  exact ⟨⟨0, HER.out, .inr ⟨rfl, rfl⟩⟩, after_ B1 hb2⟩
end Go.Proofs.YtpkepgcmifdpfaaGreatDoor
end

section
namespace Go.Proofs.YtpkepgcmifdpfaaGreatDoor
open Go Go.RowKit
set_option maxRecDepth 100000
def M.fewT (t : Tr) : Bool := decide ((t.ps.length : Int) ≤ 30) && decide ((t.l.length : Int) ≤ 8) && decide ((t.T.length : Int) ≤ 8) && decide ((t.C.length : Int) ≤ 8)
set_option maxHeartbeats 8000000 in
theorem few48_ok (a : TrA) (t : Tr) (w : World) : Calls Tryz.prog 8 #[trV a t] w fun e w' => e = .returned (.bool (M.fewT t)) ∧ Below w.heap.size w w' := by
  obtain ⟨X, HX, x0, hB, -⟩ := boxes1 w (trc a t) 28
  have hX := HX.out
  obtain ⟨c0, c1, c2, c3, c4, c5⟩ := x0.c6
  unfold M.fewT
  obtain ⟨f1, hf1⟩ : ∃ f, decide ((t.ps.length : Int) ≤ 30) = f := ⟨_, rfl⟩
  obtain ⟨f2, hf2⟩ : ∃ f, decide ((t.l.length : Int) ≤ 8) = f := ⟨_, rfl⟩
  obtain ⟨f3, hf3⟩ : ∃ f, decide ((t.T.length : Int) ≤ 8) = f := ⟨_, rfl⟩
  obtain ⟨f4, hf4⟩ : ∃ f, decide ((t.C.length : Int) ≤ 8) = f := ⟨_, rfl⟩
  rw [hf1, hf2, hf3, hf4]
  go_enter Tryz.func8, Tryz.ntmps8
  cases f1 <;> cases f2 <;> cases f3 <;> cases f4 <;>
  · go_wp2_with fail
    go_ret
    exact ⟨rfl, hB⟩
set_option maxHeartbeats 8000000 in
theorem short48_ok (OA : Option Addr) (oc : Nat) (os : List SLc) (w : World) (hO : LL w OA os) (hol : os.length ≤ 9223372036854775807) (r : Bool) (hr : r = true ↔ os.length ≤ 10 ∧ ∀ s ∈ os, s.xs.length ≤ 10) :
    Calls Tryz.prog 17 #[.slice OA os.length oc] w fun e w' => e = .returned (.bool r) ∧ w = w' := by
  have HL := Lib.hid hol
  have HR := Lib.hid hr
  clear hol hr
  go_enter Tryz.func17, Tryz.ntmps17
  go_wp2_with fail
  go_loopw [3] (fun i wr => ∃ k : Nat, k ≤ os.length ∧ i = .int .i64 k ∧ w = wr ∧ Hid (∀ j (hj : j < os.length), j < k → os[j].xs.length ≤ 10)) (fun i _ => os.length - (intOf i).toNat)
  case atStart => exact ⟨0, Nat.zero_le _, rfl, rfl, Lib.hid (fun j _ h => absurd h (by omega))⟩
  case round =>
    obtain ⟨k, hk, rfl, rfl, HN⟩ := hrel
    by_cases hlt : k < os.length
    · obtain ⟨la, hla, hlb, a0⟩ := hO.outer.sl1 hlt
      have x0 : (0 : Int) ≤ (k : Int) := by omega
      have y0 : (k : Int) < (os.length : Int) := by omega
      have q0 : decide ((k : Int) < (os.length : Int)) = true := decide_eq_true y0
      by_cases he : os[k].xs.length ≤ 10
      · have HE : Hid (∀ j (hj : j < os.length), j < k + 1 → os[j].xs.length ≤ 10) := Lib.hid (fun j hj h => by
          by_cases e : j = k
          · subst e; exact he
          · exact HN.out j hj (by omega))
        have q1 : decide ((os[k].xs.length : Int) > 10) = false := decide_eq_false (by omega)
        have q2 : decide ((10 : Int) < (os[k].xs.length : Int)) = false := decide_eq_false (by omega)
        clear HN
        generalize os[k].xs.length = n at *
        generalize os[k].A = sA at *
        generalize os[k].c = scp at *
        have HL2 := HL.out
        have q3 : ¬ (10 : Int) < (n : Int) := by omega
        subst hla
        go_wp2_with fail
        go_roundw
        case rel => exact ⟨k + 1, hlt, by go_num, trivial, HE⟩
        case measure => simp [intOf]; omega
      · have HM : Hid (r = false) := Lib.hid (by
          cases r with
          | false => rfl
          | true => exact absurd ((HR.out.1 rfl).2 _ (List.getElem_mem hlt)) he)
        have q1 : decide ((os[k].xs.length : Int) > 10) = true := decide_eq_true (by omega)
        have q2 : decide ((10 : Int) < (os[k].xs.length : Int)) = true := decide_eq_true (by omega)
        clear HN
        generalize os[k].xs.length = n at *
        generalize os[k].A = sA at *
        generalize os[k].c = scp at *
        have q3 : (10 : Int) < (n : Int) := by omega
        subst hla
        go_wp2_with fail
        go_ret
        exact ⟨by rw [HM.out]; rfl, rfl⟩
    · obtain rfl : k = os.length := by omega
      have q0 : decide ((os.length : Int) < (os.length : Int)) = false := decide_eq_false (by omega)
      have HM : Hid (decide ((os.length : Int) ≤ 10) = r) := Lib.hid (by
        rw [Bool.eq_iff_iff, decide_eq_true_eq, HR.out]
        constructor
        · intro h1
          exact ⟨by omega, fun s hs => by obtain ⟨j, hj, rfl⟩ := List.getElem_of_mem hs; exact HN.out j hj hj⟩
        · intro h1
          have := h1.1
          omega)
      go_wp2_with fail
      go_ret
      exact ⟨by rw [← HM.out]; rfl, rfl⟩
end Go.Proofs.YtpkepgcmifdpfaaGreatDoor
end

section
namespace Go.Proofs.YtpkepgcmifdpfaaGreatDoor
open Go Go.RowKit
set_option maxRecDepth 100000
set_option maxHeartbeats 8000000 in
theorem rHas_ok (A : Option Addr) (c B : Nat) (xs : List Int) (v : Int) (w : World) (h : Sl 1 icell w B A xs) (hl : xs.length ≤ 1000000000) (r : Bool) (hr : r = true ↔ v ∈ xs) :
    Calls Tryz.prog 64 #[.slice A xs.length c, .int .i64 v] w fun e w' => e = .returned (.bool r) ∧ w = w' := by
  have HL := Lib.hid hl
  have HR := Lib.hid hr
  clear hl hr
  go_enter Tryz.func64, Tryz.ntmps64
  go_wp2_with fail
  go_loopw [5] (fun i wr => ∃ k : Nat, k ≤ xs.length ∧ i = .int .i64 k ∧ w = wr ∧ Hid (∀ j (hj : j < xs.length), j < k → xs[j] ≠ v)) (fun i _ => xs.length - (intOf i).toNat)
  case atStart => exact ⟨0, Nat.zero_le _, rfl, rfl, Lib.hid (fun j _ h => absurd h (by omega))⟩
  case round =>
    obtain ⟨k, hk, rfl, rfl, HN⟩ := hrel
    by_cases hlt : k < xs.length
    · obtain ⟨la, hla, hlb, a0⟩ := h.int1 hlt
      have x0 : (0 : Int) ≤ (k : Int) := by omega
      have y0 : (k : Int) < (xs.length : Int) := by omega
      have q0 : decide ((k : Int) < (xs.length : Int)) = true := decide_eq_true y0
      by_cases he : xs[k] = v
      · have HM : Hid (r = true) := Lib.hid (HR.out.2 (he ▸ List.getElem_mem hlt))
        have q1 : (xs[k] == v) = true := by simp [he]
        rw [he] at a0
        clear he q1 HN HR
        subst hla
        go_wp2_with fail
        go_ret
        exact ⟨by rw [HM.out]; rfl, rfl⟩
      · have HE : Hid (∀ j (hj : j < xs.length), j < k + 1 → xs[j] ≠ v) := Lib.hid (fun j hj h => by
          by_cases e : j = k
          · subst e; exact he
          · exact HN.out j hj (by omega))
        have q1 : (xs[k] == v) = false := by simp; exact he
        clear he HN
        generalize xs[k] = y at *
        have HL2 := HL.out
        subst hla
        go_wp2_with fail
        go_roundw
        case rel => exact ⟨k + 1, hlt, by go_num, trivial, HE⟩
        case measure => simp [intOf]; omega
    · obtain rfl : k = xs.length := by omega
      have q0 : decide ((xs.length : Int) < (xs.length : Int)) = false := decide_eq_false (by omega)
      have HM : Hid (r = false) := Lib.hid (by
        cases r with
        | false => rfl
        | true =>
          obtain ⟨j, hj, e⟩ := List.getElem_of_mem (HR.out.1 rfl)
          exact absurd e (HN.out j hj hj))
      go_wp2_with fail
      go_ret
      exact ⟨by rw [HM.out]; rfl, rfl⟩
end Go.Proofs.YtpkepgcmifdpfaaGreatDoor
end

section
namespace Go.Proofs.YtpkepgcmifdpfaaGreatDoor
open Go Go.RowKit
set_option maxRecDepth 100000
set_option maxHeartbeats 16000000 in
theorem rValid48_ok (a : TrA) (t : Tr) (w : World) (ht : TrM w a t) (r : Bool) (hr : r = true ↔ M.trOk t) : Calls Tryz.prog 13 #[trV a t] w fun e w' => e = .returned (.bool r) ∧ Below w.heap.size w w' := by
 have HQ : Hid ((¬ M.trOk t → r = false) ∧ (M.trOk t → r = true)) := Lib.hid ⟨fun h => by cases r <;> simp_all, fun h => hr.2 h⟩
 clear hr
 obtain ⟨X, HX, x0, hB, -⟩ := boxes1 w (trc a t) 28
 have hX := HX.out
 have tx := ht.next hB
 obtain ⟨c0, c1, c2, c3, c4, c5⟩ := x0.c6
 go_enter Tryz.func13, Tryz.ntmps13
 go_wp2_with fail
 clear hX c0 c1 c2 c3 c4 c5
 refine (rMoves_ok a.L a.l t.l X tx.L tx.hL).mono ?_
 rintro e w1 ⟨⟨r1, rfl, hr1⟩, hb1⟩
 have B1 := after_ hB hb1
 have tx1 := tx.next hb1
 have x1 := x0.below hb1
 obtain ⟨c0, c1, c2, c3, c4, c5⟩ := x1.c6
 cases r1 with
 | false =>
  have HF : Hid (r = false) := Lib.hid (HQ.out.1 (fun h => by have := hr1.2 h.1; cases this))
  clear hr1
  go_wp2_with fail
  go_ret
  exact ⟨by rw [HF.out]; rfl, B1⟩
 | true =>
 have HMO := Lib.hid (hr1.1 rfl)
 clear hr1
 by_cases hT : M.sisOk t.T
 case neg =>
  have HF : Hid (r = false) := Lib.hid (HQ.out.1 (fun h => hT h.2.1))
  have kT := rSites_ok a.T a.t t.T w1 tx1.T tx1.hT false ⟨(fun h => by cases h), fun h => absurd h hT⟩
  clear hT
  go_wp2_with fail
  refine kT.mono ?_
  rintro e w2 ⟨rfl, hb2⟩
  have B2 := after_ B1 hb2
  go_wp2_with fail
  go_ret
  exact ⟨by rw [HF.out]; rfl, B2⟩
 have kT := rSites_ok a.T a.t t.T w1 tx1.T tx1.hT true ⟨fun _ => hT, fun _ => rfl⟩
 have HT := Lib.hid hT
 clear hT
 go_wp2_with fail
 clear c0 c1 c2 c3 c4 c5
 refine kT.mono ?_
 rintro e w2 ⟨rfl, hb2⟩
 have B2 := after_ B1 hb2
 have tx2 := tx1.next hb2
 have x2 := x1.below hb2
 obtain ⟨c0, c1, c2, c3, c4, c5⟩ := x2.c6
 clear kT
 by_cases hC : M.sisOk t.C
 case neg =>
  have HF : Hid (r = false) := Lib.hid (HQ.out.1 (fun h => hC h.2.2.1))
  have kC := rSites_ok a.C a.c t.C w2 tx2.C tx2.hC false ⟨(fun h => by cases h), fun h => absurd h hC⟩
  clear hC
  go_wp2_with fail
  refine kC.mono ?_
  rintro e w3 ⟨rfl, hb3⟩
  have B3 := after_ B2 hb3
  go_wp2_with fail
  go_ret
  exact ⟨by rw [HF.out]; rfl, B3⟩
 have kC := rSites_ok a.C a.c t.C w2 tx2.C tx2.hC true ⟨fun _ => hC, fun _ => rfl⟩
 have HC := Lib.hid hC
 clear hC
 go_wp2_with fail
 clear c0 c1 c2 c3 c4 c5
 refine kC.mono ?_
 rintro e w3 ⟨rfl, hb3⟩
 have B3 := after_ B2 hb3
 have tx3 := tx2.next hb3
 have x3 := x2.below hb3
 obtain ⟨c0, c1, c2, c3, c4, c5⟩ := x3.c6
 clear kC
 by_cases n0 : 1 ≤ t.lm
 case neg =>
  have q0 : decide (1 ≤ t.lm) = false := decide_eq_false n0
  have HF : Hid (r = false) := Lib.hid (HQ.out.1 (fun h => n0 h.2.2.2.1))
  clear n0
  go_wp2_with fail
  go_ret
  exact ⟨by rw [HF.out]; rfl, B3⟩
 have q0 : decide (1 ≤ t.lm) = true := decide_eq_true n0
 have N0 := Lib.hid n0
 clear n0
 by_cases n1 : t.lm ≤ 512
 case neg =>
  have q1 : decide (t.lm ≤ 512) = false := decide_eq_false n1
  have HF : Hid (r = false) := Lib.hid (HQ.out.1 (fun h => n1 h.2.2.2.2.1))
  clear n1
  go_wp2_with fail
  go_ret
  exact ⟨by rw [HF.out]; rfl, B3⟩
 have q1 : decide (t.lm ≤ 512) = true := decide_eq_true n1
 have N1 := Lib.hid n1
 clear n1
 by_cases n2 : 1 ≤ t.lw
 case neg =>
  have q2 : decide (1 ≤ t.lw) = false := decide_eq_false n2
  have HF : Hid (r = false) := Lib.hid (HQ.out.1 (fun h => n2 h.2.2.2.2.2.1))
  clear n2
  go_wp2_with fail
  go_ret
  exact ⟨by rw [HF.out]; rfl, B3⟩
 have q2 : decide (1 ≤ t.lw) = true := decide_eq_true n2
 have N2 := Lib.hid n2
 clear n2
 by_cases n3 : t.lw ≤ 1048576
 case neg =>
  have q3 : decide (t.lw ≤ 1048576) = false := decide_eq_false n3
  have HF : Hid (r = false) := Lib.hid (HQ.out.1 (fun h => n3 h.2.2.2.2.2.2))
  clear n3
  go_wp2_with fail
  go_ret
  exact ⟨by rw [HF.out]; rfl, B3⟩
 have q3 : decide (t.lw ≤ 1048576) = true := decide_eq_true n3
 have N3 := Lib.hid n3
 clear n3
 have HF : Hid (r = true) := Lib.hid (HQ.out.2 ⟨HMO.out, HT.out, HC.out, N0.out, N1.out, N2.out, N3.out⟩)
 go_wp2_with fail
 go_ret
 exact ⟨by rw [HF.out]; rfl, B3⟩
end Go.Proofs.YtpkepgcmifdpfaaGreatDoor
end
