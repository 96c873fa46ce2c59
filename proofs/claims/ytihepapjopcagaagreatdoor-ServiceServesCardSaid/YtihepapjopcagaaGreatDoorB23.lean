/- A bundle of texts: LawSe. -/
import Derived.Test.YtihepapjopcagaaGreatDoorB20
import Derived.Test.YtihepapjopcagaaGreatDoorB22
/- The walk of the law ServiceServes. -/
section
namespace Go.Proofs.YtihepapjopcagaaGreatDoor
open Go Go.RowKit
set_option maxRecDepth 100000

/-- Whether the terrain and all of the stations are valid. -/
def M.fine (W H : Int) (G P : List Int) (l : List St) : Bool := M.tvalid W H G P && l.all (M.okS W H G P)
theorem M.chk_fine {W H : Int} {G P : List Int} {l : List St} : M.chk W H G P l = if M.fine W H G P l then 0 else 2 := rfl
theorem M.fine_succ {W H : Int} {G P : List Int} {l : List SE} {k : Nat} (h : k < l.length) : M.fine W H G P ((l.take (k + 1)).map (·.s)) = (M.fine W H G P ((l.take k).map (·.s)) && M.okS W H G P l[k].s) := by
  unfold M.fine
  rw [List.take_succ_eq_append_getElem h, List.map_append, List.all_append, Bool.and_assoc]
  simp

theorem heldS {w' : World} {b0 b1 b2 n : Nat} {W H cx cy : Int} {GA PA : Option Addr} {gc pc : Nat} {G P : List Int} (h0 : Box w' b0 #[.int .i64 W, .int .i64 H, .slice GA G.length gc, .slice PA P.length pc] 30) (h1 : Box w' b1 #[.int .i64 cx, .int .i64 cy] 36) (h2 : Box w' b2 (bsc n) 60) :
    w'.cell? ⟨b0, 0, none⟩ = some (.int .i64 W) ∧ w'.cell? ⟨b0, 1, none⟩ = some (.int .i64 H) ∧ w'.cell? ⟨b0, 2, none⟩ = some (.slice GA G.length gc) ∧ w'.cell? ⟨b0, 3, none⟩ = some (.slice PA P.length pc) ∧ w'.cell? ⟨b1, 0, none⟩ = some (.int .i64 cx) ∧ w'.cell? ⟨b1, 1, none⟩ = some (.int .i64 cy) ∧ w'.cell? ⟨b2, 0, none⟩ = some (.int .u64 (Bs.wd n 0 : Nat)) ∧ w'.cell? ⟨b2, 1, none⟩ = some (.int .u64 (Bs.wd n 1 : Nat)) ∧ w'.cell? ⟨b2, 2, none⟩ = some (.int .u64 (Bs.wd n 2 : Nat)) ∧ w'.cell? ⟨b2, 3, none⟩ = some (.int .u64 (Bs.wd n 3 : Nat)) ∧ w'.cell? ⟨b2, 4, none⟩ = some (.int .u64 (Bs.wd n 4 : Nat)) ∧ w'.cell? ⟨b2, 5, none⟩ = some (.int .u64 (Bs.wd n 5 : Nat)) ∧ w'.cell? ⟨b2, 6, none⟩ = some (.int .u64 (Bs.wd n 6 : Nat)) ∧ w'.cell? ⟨b2, 7, none⟩ = some (.int .u64 (Bs.wd n 7 : Nat)) := by
  obtain ⟨c0, c1, c2, c3⟩ := h0.c4
  obtain ⟨d0, d1⟩ := h1.c2
  obtain ⟨e0, e1, e2, e3, e4, e5, e6, e7⟩ := h2.w
  exact ⟨c0, c1, c2, c3, d0, d1, e0, e1, e2, e3, e4, e5, e6, e7⟩

set_option maxHeartbeats 32000000 in
theorem serviceServes_walk (W H : Int) (GA PA : Option Addr) (gc pc : Nat) (G P : List Int) (LA : Option Addr) (lc : Nat) (es : List SE) (cx cy : Int) (w : World) (ht : Tab w) (h64 : Tab64 w) (hg : Sl 1 icell w w.heap.size GA G) (hp : Sl 1 icell w w.heap.size PA P) (hLs : Sl 8 secell w w.heap.size LA es) (hPs : Pats w es) :
    Calls Tryz.prog 7 #[tv W H GA PA G.length gc P.length pc, .slice LA es.length lc, cv cx cy] w fun e w' => e = .returned (.bool true) ∧ Below w.heap.size w w' := by
  obtain ⟨V, HW, x0, cb, hB, -⟩ := boxes2 w #[.int .i64 W, .int .i64 H, .slice GA G.length gc, .slice PA P.length pc] 30 #[.int .i64 cx, .int .i64 cy] 36
  have lw : LW w V w.heap.size W H GA PA gc pc G P := ⟨x0, (hg.below hB).more hB.size, (hp.below hB).more hB.size, ht.kept hB, h64.kept hB, hB⟩
  have hL := (hLs.below hB).more hB.size
  have hP := hPs.below hB
  clear x0
  obtain ⟨bg, hbig⟩ : ∃ bg, M.big G.length P.length (es.map (·.s)) = bg := ⟨_, rfl⟩
  have kB := big14_any W H GA PA gc pc G.length P.length LA lc es V hL
  rw [hbig] at kB
  obtain ⟨c0, c1, c2, c3⟩ := lw.t.c4
  have hV := HW.out
  go_enter Tryz.func7, Tryz.ntmps7
  go_wp2_with fail
  clear hV c0 c1 c2 c3
  refine kB.mono ?_
  rintro e w1 ⟨rfl, hb1⟩
  replace lw := lw.next hb1
  replace cb := cb.below hb1
  replace hL := (hL.below hb1).more hb1.size
  replace hP := hP.below hb1
  clear hb1 kB hB
  cases bg with
  | true =>
    go_wp2_with fail
    refine lw.known.mono ?_
    rintro e x9 ⟨rfl, hb9⟩
    go_wp2_with fail
    go_ret
    exact ⟨rfl, hb9⟩
  | false =>
    obtain ⟨l1, l2, l3, l4⟩ := M.big_no hbig
    rw [List.length_map] at l3
    have hpe : Hid (∀ e ∈ es, e.s.pat.length ≤ 1000) := Lib.hid (fun e he => Nat.le_trans (l4 e.s (List.mem_map.2 ⟨e, he, rfl⟩)) (by omega))
    clear hbig l4
    cases hfi : M.fine W H G P (es.map (·.s)) with
    | false =>
      obtain ⟨c0, c1, c2, c3⟩ := lw.t.c4
      obtain ⟨d0, d1⟩ := cb.c2
      go_wp2_with fail
      clear c0 c1 c2 c3 d0 d1
      refine (served_no W H GA PA gc pc G P LA lc es cx cy _ lw.g lw.p hL hP (by omega) (by omega) (by omega) hpe.out (.inl (by rw [M.chk_fine, hfi]; rfl))).mono ?_
      rintro e x1 ⟨rfl, hbx⟩
      replace lw := lw.next hbx
      replace cb := cb.below hbx
      replace hL := (hL.below hbx).more hbx.size
      replace hP := hP.below hbx
      clear hbx
      obtain ⟨X, HX, sb, hbX, -⟩ := boxes1 x1 (bsc 0) 60
      have hX := HX.out
      replace lw := lw.next hbX
      replace cb := cb.below hbX
      replace hL := (hL.below hbX).more hbX.size
      replace hP := hP.below hbX
      obtain ⟨c0, c1, c2, c3⟩ := lw.t.c4
      go_wp2_with fail
      clear hX c0 c1 c2 c3
      refine (reach_no W H GA PA gc pc G P LA lc es _ lw.g lw.p hL hP (by omega) (by omega) (by omega) hpe.out (by rw [M.chk_fine, hfi]; rfl)).mono ?_
      rintro e x2 ⟨rfl, hbx⟩
      replace lw := lw.next hbx
      replace cb := cb.below hbx
      replace hL := (hL.below hbx).more hbx.size
      replace hP := hP.below hbx
      replace sb := sb.below hbx
      clear hbx
      clear HX hbX
      obtain ⟨c0, c1, c2, c3⟩ := lw.t.c4
      go_wp2_with fail
      clear c0 c1 c2 c3
      refine (rValid_any W H GA PA gc pc G P _ lw.g lw.p (by omega)).mono ?_
      rintro e x3 ⟨rfl, hbx⟩
      replace lw := lw.next hbx
      replace cb := cb.below hbx
      replace hL := (hL.below hbx).more hbx.size
      replace hP := hP.below hbx
      replace sb := sb.below hbx
      clear hbx
      skip
      go_wp2_with fail
      go_loopw [11, 12] (fun fi i wr => ∃ k : Nat, k ≤ es.length ∧ i = .int .i64 k ∧ fi = .bool (M.fine W H G P ((es.take k).map (·.s))) ∧ Below x3.heap.size x3 wr) (fun _ i _ => es.length - (intOf i).toNat)
      case atStart => exact ⟨0, Nat.zero_le _, rfl, by first | (simp [M.fine]; done) | simp [M.fine, htv], Below.refl _ _⟩
      case round =>
        obtain ⟨k, hk, rfl, rfl, hBr⟩ := hrel
        replace lw := lw.next hBr
        replace cb := cb.below hBr
        replace hL := (hL.below hBr).more hBr.size
        replace hP := hP.below hBr
        replace sb := sb.below hBr
        by_cases hlt : k < es.length
        · have HS1 := Lib.hid (M.fine_succ (W := W) (H := H) (G := G) (P := P) hlt)
          obtain ⟨la, hla, hlb, a0, a1, a2, a3, a4, a5, a6, a7⟩ := hL.st8 hlt
          have hSk := hP.at_ hlt
          have hpk := hpe.out es[k] (List.getElem_mem hlt)
          obtain ⟨c0, c1, c2, c3⟩ := lw.t.c4
          have l0 := lw.t.lt
          have hgw := lw.g
          have hpw := lw.p
          have kA : Hid (∀ u : Kept wr.heap.size wr, Calls Tryz.prog 17 #[tv W H GA PA G.length gc P.length pc, stv es[k].s es[k].A es[k].c] u.val fun e w' => e = .returned (.bool (M.okS W H G P es[k].s)) ∧ Below u.val.heap.size u.val w') := Lib.hid (fun u => rAllowed14_any W H GA PA gc pc G P es[k].s es[k].A es[k].c u.val hgw.kept hpw.kept hSk.kept (by omega) (by omega))
          clear hSk hpk hgw hpw
          generalize es[k] = ek at *
          obtain ⟨s, A', c'⟩ := ek
          simp only at a0 a1 a2 a3 a4 a5 a6 a7 kA HS1
          generalize M.okS W H G P s = ok0 at *
          subst hla
          cases hfo : M.fine W H G P ((es.take k).map (·.s)) with
          | true =>
            have HS2 : Hid (M.fine W H G P ((es.take (k + 1)).map (·.s)) = ok0) := Lib.hid (by rw [HS1.out, hfo]; rfl)
            go_wp2_with fail
            refine wp_region_kept wr.heap.size wr (by kernel_rfl) (by kernel_rfl) (Below.refl _ _) ?_
            repeat (go_big_quiet_step ((go_at_call 17; exact Kept.calls (Nat.le_refl _) (kA.out _))))
            refine wpQuiet_nil ?_
            rintro w5 ⟨⟨_, hb5⟩, rfl⟩
            go_wp2_with fail
            go_roundw
            case rel => exact ⟨k + 1, hlt, by go_num, by rw [HS2.out], after_ hBr hb5⟩
            case measure => simp [intOf]; omega
          | false =>
            have HS2 : Hid (M.fine W H G P ((es.take (k + 1)).map (·.s)) = false) := Lib.hid (by rw [HS1.out, hfo]; rfl)
            go_wp2_with fail
            refine wp_region_kept wr.heap.size wr (by kernel_rfl) (by kernel_rfl) (Below.refl _ _) ?_
            repeat (go_big_quiet_step (fail))
            refine wpQuiet_nil ?_
            rintro w5 ⟨⟨_, hb5⟩, rfl⟩
            go_wp2_with fail
            go_roundw
            case rel => exact ⟨k + 1, hlt, by go_num, by rw [HS2.out], after_ hBr hb5⟩
            case measure => simp [intOf]; omega
        · have hks : es.take k = es := List.take_of_length_le (by omega)
          rw [hks, hfi]
          clear hks
          obtain ⟨e0, e1, e2, e3, e4, e5, e6, e7⟩ := sb.w
          go_wp2_with fail
          clear e0 e1 e2 e3 e4 e5 e6 e7
          refine (bsEmpty_ok 0 Bs.Fit.zero _).mono ?_
          rintro e y1 ⟨rfl, hbx⟩
          rw [decide_eq_true rfl]
          replace lw := lw.next hbx
          replace cb := cb.below hbx
          replace hL := (hL.below hbx).more hbx.size
          replace hP := hP.below hbx
          replace sb := sb.below hbx
          clear hbx
          go_wp2_with fail
          refine lw.known.mono ?_
          rintro e x9 ⟨rfl, hb9⟩
          go_wp2_with fail
          go_ret
          exact ⟨rfl, hb9⟩
    | true =>
      cases hha : M.has W H G P cx cy with
      | false =>
        obtain ⟨htv, hall⟩ := (Bool.and_eq_true _ _).mp (show (M.tvalid W H G P && (es.map (·.s)).all (M.okS W H G P)) = true from hfi)
        have hob : ∀ e ∈ es, M.okS W H G P e.s = true := fun e he => List.all_eq_true.1 hall e.s (List.mem_map.2 ⟨e, he, rfl⟩)
        clear hall
        obtain ⟨c0, c1, c2, c3⟩ := lw.t.c4
        obtain ⟨d0, d1⟩ := cb.c2
        go_wp2_with fail
        clear c0 c1 c2 c3 d0 d1
        refine (served_no W H GA PA gc pc G P LA lc es cx cy _ lw.g lw.p hL hP (by omega) (by omega) (by omega) hpe.out (.inr ⟨by rw [M.chk_fine, hfi]; rfl, hha⟩)).mono ?_
        rintro e x1 ⟨rfl, hbx⟩
        replace lw := lw.next hbx
        replace cb := cb.below hbx
        replace hL := (hL.below hbx).more hbx.size
        replace hP := hP.below hbx
        clear hbx
        obtain ⟨X, HX, sb, hbX, -⟩ := boxes1 x1 (bsc 0) 60
        have hX := HX.out
        replace lw := lw.next hbX
        replace cb := cb.below hbX
        replace hL := (hL.below hbX).more hbX.size
        replace hP := hP.below hbX
        obtain ⟨c0, c1, c2, c3⟩ := lw.t.c4
        go_wp2_with fail
        clear hX c0 c1 c2 c3
        refine (reach_ok W H GA PA gc pc G P LA lc es _ lw.tab lw.g lw.p hL hP (by omega) htv hob).mono ?_
        rintro e x2 ⟨rfl, hbx⟩
        replace lw := lw.next hbx
        replace cb := cb.below hbx
        replace hL := (hL.below hbx).more hbx.size
        replace hP := hP.below hbx
        replace sb := sb.below hbx
        clear hbx
        clear HX hbX
        obtain ⟨c0, c1, c2, c3⟩ := lw.t.c4
        go_wp2_with fail
        clear c0 c1 c2 c3
        refine (rValid_any W H GA PA gc pc G P _ lw.g lw.p (by omega)).mono ?_
        rintro e x3 ⟨rfl, hbx⟩
        replace lw := lw.next hbx
        replace cb := cb.below hbx
        replace hL := (hL.below hbx).more hbx.size
        replace hP := hP.below hbx
        replace sb := sb.below hbx
        clear hbx
        generalize hr0 : M.total P (M.reachL W H G (es.map (·.s))) = vr
        go_wp2_with fail
        go_loopw [11, 12] (fun fi i wr => ∃ k : Nat, k ≤ es.length ∧ i = .int .i64 k ∧ fi = .bool (M.fine W H G P ((es.take k).map (·.s))) ∧ Below x3.heap.size x3 wr) (fun _ i _ => es.length - (intOf i).toNat)
        case atStart => exact ⟨0, Nat.zero_le _, rfl, by first | (simp [M.fine]; done) | simp [M.fine, htv], Below.refl _ _⟩
        case round =>
          obtain ⟨k, hk, rfl, rfl, hBr⟩ := hrel
          replace lw := lw.next hBr
          replace cb := cb.below hBr
          replace hL := (hL.below hBr).more hBr.size
          replace hP := hP.below hBr
          replace sb := sb.below hBr
          by_cases hlt : k < es.length
          · have HS1 := Lib.hid (M.fine_succ (W := W) (H := H) (G := G) (P := P) hlt)
            obtain ⟨la, hla, hlb, a0, a1, a2, a3, a4, a5, a6, a7⟩ := hL.st8 hlt
            have hSk := hP.at_ hlt
            have hpk := hpe.out es[k] (List.getElem_mem hlt)
            obtain ⟨c0, c1, c2, c3⟩ := lw.t.c4
            have l0 := lw.t.lt
            have hgw := lw.g
            have hpw := lw.p
            have kA : Hid (∀ u : Kept wr.heap.size wr, Calls Tryz.prog 17 #[tv W H GA PA G.length gc P.length pc, stv es[k].s es[k].A es[k].c] u.val fun e w' => e = .returned (.bool (M.okS W H G P es[k].s)) ∧ Below u.val.heap.size u.val w') := Lib.hid (fun u => rAllowed14_any W H GA PA gc pc G P es[k].s es[k].A es[k].c u.val hgw.kept hpw.kept hSk.kept (by omega) (by omega))
            clear hSk hpk hgw hpw
            generalize es[k] = ek at *
            obtain ⟨s, A', c'⟩ := ek
            simp only at a0 a1 a2 a3 a4 a5 a6 a7 kA HS1
            generalize M.okS W H G P s = ok0 at *
            subst hla
            cases hfo : M.fine W H G P ((es.take k).map (·.s)) with
            | true =>
              have HS2 : Hid (M.fine W H G P ((es.take (k + 1)).map (·.s)) = ok0) := Lib.hid (by rw [HS1.out, hfo]; rfl)
              go_wp2_with fail
              refine wp_region_kept wr.heap.size wr (by kernel_rfl) (by kernel_rfl) (Below.refl _ _) ?_
              repeat (go_big_quiet_step ((go_at_call 17; exact Kept.calls (Nat.le_refl _) (kA.out _))))
              refine wpQuiet_nil ?_
              rintro w5 ⟨⟨_, hb5⟩, rfl⟩
              go_wp2_with fail
              go_roundw
              case rel => exact ⟨k + 1, hlt, by go_num, by rw [HS2.out], after_ hBr hb5⟩
              case measure => simp [intOf]; omega
            | false =>
              have HS2 : Hid (M.fine W H G P ((es.take (k + 1)).map (·.s)) = false) := Lib.hid (by rw [HS1.out, hfo]; rfl)
              go_wp2_with fail
              refine wp_region_kept wr.heap.size wr (by kernel_rfl) (by kernel_rfl) (Below.refl _ _) ?_
              repeat (go_big_quiet_step (fail))
              refine wpQuiet_nil ?_
              rintro w5 ⟨⟨_, hb5⟩, rfl⟩
              go_wp2_with fail
              go_roundw
              case rel => exact ⟨k + 1, hlt, by go_num, by rw [HS2.out], after_ hBr hb5⟩
              case measure => simp [intOf]; omega
          · have hks : es.take k = es := List.take_of_length_le (by omega)
            rw [hks, hfi]
            clear hks
            obtain ⟨c0, c1, c2, c3⟩ := lw.t.c4
            obtain ⟨d0, d1⟩ := cb.c2
            go_wp2_with fail
            clear c0 c1 c2 c3 d0 d1
            refine (rHas_any W H GA PA gc pc G P cx cy _ lw.g lw.p (by omega)).mono ?_
            rintro e x4 ⟨rfl, hbx⟩
            replace lw := lw.next hbx
            replace cb := cb.below hbx
            replace hL := (hL.below hbx).more hbx.size
            replace hP := hP.below hbx
            replace sb := sb.below hbx
            clear hbx
            rw [hha]
            obtain ⟨e0, e1, e2, e3, e4, e5, e6, e7⟩ := sb.w
            go_wp2_with fail
            clear e0 e1 e2 e3 e4 e5 e6 e7
            refine (bsEmpty_ok 0 Bs.Fit.zero _).mono ?_
            rintro e y1 ⟨rfl, hbx⟩
            rw [decide_eq_true rfl]
            replace lw := lw.next hbx
            replace cb := cb.below hbx
            replace hL := (hL.below hbx).more hbx.size
            replace hP := hP.below hbx
            replace sb := sb.below hbx
            clear hbx
            obtain ⟨c0, c1, c2, c3⟩ := lw.t.c4
            go_wp2_with fail
            clear c0 c1 c2 c3
            refine (rReach_ok W H GA PA gc pc G P LA lc es _ lw.g lw.p hL hP (by omega) htv hob).mono ?_
            rintro e x5 ⟨rfl, hbx⟩
            replace lw := lw.next hbx
            replace cb := cb.below hbx
            replace hL := (hL.below hbx).more hbx.size
            replace hP := hP.below hbx
            replace sb := sb.below hbx
            clear hbx
            rw [hr0]
            have q9 : (vr == vr) = true := by simp
            go_wp2_with fail
            refine lw.known.mono ?_
            rintro e x9 ⟨rfl, hb9⟩
            go_wp2_with fail
            go_ret
            exact ⟨rfl, hb9⟩
      | true =>
        obtain ⟨htv, hall⟩ := (Bool.and_eq_true _ _).mp (show (M.tvalid W H G P && (es.map (·.s)).all (M.okS W H G P)) = true from hfi)
        have hob : ∀ e ∈ es, M.okS W H G P e.s = true := fun e he => List.all_eq_true.1 hall e.s (List.mem_map.2 ⟨e, he, rfl⟩)
        clear hall
        have HF : Hid (∀ e ∈ es, M.okF W H G P e.s cx cy = true) := Lib.hid (fun e he => by
          obtain ⟨-, hin⟩ := (Bool.and_eq_true _ _).mp (show (M.tvalid W H G P && M.inside W H cx cy) = true from hha)
          have hin' := M.inside_iff.1 hin
          exact M.okS_F (hob e he) hin'.1.1 hin'.1.2 hin'.2.1 hin'.2.2)
        have HI : Hid (∀ s ∈ es.map (·.s), 0 ≤ s.id) := Lib.hid (fun s hs => by
          obtain ⟨e, he, rfl⟩ := List.mem_map.1 hs
          exact (M.svalid_iff.1 (M.okS_iff.1 (hob e he)).1).1.1)
        obtain ⟨c0, c1, c2, c3⟩ := lw.t.c4
        obtain ⟨d0, d1⟩ := cb.c2
        go_wp2_with fail
        clear c0 c1 c2 c3 d0 d1
        refine (served_ok W H GA PA gc pc G P LA lc es cx cy _ lw.tab lw.g lw.p hL hP (by omega) hob hha).mono ?_
        rintro e x1 ⟨rfl, hbx⟩
        replace lw := lw.next hbx
        replace cb := cb.below hbx
        replace hL := (hL.below hbx).more hbx.size
        replace hP := hP.below hbx
        clear hbx
        obtain ⟨sn, HSN⟩ : ∃ sn, Hid (M.servN W G cx cy (es.map (·.s)) = sn) := ⟨_, Lib.hid rfl⟩
        rw [HSN.out]
        obtain ⟨X, HX, sb, hbX, -⟩ := boxes1 x1 (bsc sn) 60
        have hX := HX.out
        replace lw := lw.next hbX
        replace cb := cb.below hbX
        replace hL := (hL.below hbX).more hbX.size
        replace hP := hP.below hbX
        obtain ⟨c0, c1, c2, c3⟩ := lw.t.c4
        go_wp2_with fail
        clear hX c0 c1 c2 c3
        refine (reach_ok W H GA PA gc pc G P LA lc es _ lw.tab lw.g lw.p hL hP (by omega) htv hob).mono ?_
        rintro e x2 ⟨rfl, hbx⟩
        replace lw := lw.next hbx
        replace cb := cb.below hbx
        replace hL := (hL.below hbx).more hbx.size
        replace hP := hP.below hbx
        replace sb := sb.below hbx
        clear hbx
        clear HX hbX
        obtain ⟨c0, c1, c2, c3⟩ := lw.t.c4
        go_wp2_with fail
        clear c0 c1 c2 c3
        refine (rValid_any W H GA PA gc pc G P _ lw.g lw.p (by omega)).mono ?_
        rintro e x3 ⟨rfl, hbx⟩
        replace lw := lw.next hbx
        replace cb := cb.below hbx
        replace hL := (hL.below hbx).more hbx.size
        replace hP := hP.below hbx
        replace sb := sb.below hbx
        clear hbx
        generalize hr0 : M.total P (M.reachL W H G (es.map (·.s))) = vr
        go_wp2_with fail
        go_loopw [11, 12] (fun fi i wr => ∃ k : Nat, k ≤ es.length ∧ i = .int .i64 k ∧ fi = .bool (M.fine W H G P ((es.take k).map (·.s))) ∧ Below x3.heap.size x3 wr) (fun _ i _ => es.length - (intOf i).toNat)
        case atStart => exact ⟨0, Nat.zero_le _, rfl, by first | (simp [M.fine]; done) | simp [M.fine, htv], Below.refl _ _⟩
        case round =>
          obtain ⟨k, hk, rfl, rfl, hBr⟩ := hrel
          replace lw := lw.next hBr
          replace cb := cb.below hBr
          replace hL := (hL.below hBr).more hBr.size
          replace hP := hP.below hBr
          replace sb := sb.below hBr
          by_cases hlt : k < es.length
          · have HS1 := Lib.hid (M.fine_succ (W := W) (H := H) (G := G) (P := P) hlt)
            obtain ⟨la, hla, hlb, a0, a1, a2, a3, a4, a5, a6, a7⟩ := hL.st8 hlt
            have hSk := hP.at_ hlt
            have hpk := hpe.out es[k] (List.getElem_mem hlt)
            obtain ⟨c0, c1, c2, c3⟩ := lw.t.c4
            have l0 := lw.t.lt
            have hgw := lw.g
            have hpw := lw.p
            have kA : Hid (∀ u : Kept wr.heap.size wr, Calls Tryz.prog 17 #[tv W H GA PA G.length gc P.length pc, stv es[k].s es[k].A es[k].c] u.val fun e w' => e = .returned (.bool (M.okS W H G P es[k].s)) ∧ Below u.val.heap.size u.val w') := Lib.hid (fun u => rAllowed14_any W H GA PA gc pc G P es[k].s es[k].A es[k].c u.val hgw.kept hpw.kept hSk.kept (by omega) (by omega))
            clear hSk hpk hgw hpw
            generalize es[k] = ek at *
            obtain ⟨s, A', c'⟩ := ek
            simp only at a0 a1 a2 a3 a4 a5 a6 a7 kA HS1
            generalize M.okS W H G P s = ok0 at *
            subst hla
            cases hfo : M.fine W H G P ((es.take k).map (·.s)) with
            | true =>
              have HS2 : Hid (M.fine W H G P ((es.take (k + 1)).map (·.s)) = ok0) := Lib.hid (by rw [HS1.out, hfo]; rfl)
              go_wp2_with fail
              refine wp_region_kept wr.heap.size wr (by kernel_rfl) (by kernel_rfl) (Below.refl _ _) ?_
              repeat (go_big_quiet_step ((go_at_call 17; exact Kept.calls (Nat.le_refl _) (kA.out _))))
              refine wpQuiet_nil ?_
              rintro w5 ⟨⟨_, hb5⟩, rfl⟩
              go_wp2_with fail
              go_roundw
              case rel => exact ⟨k + 1, hlt, by go_num, by rw [HS2.out], after_ hBr hb5⟩
              case measure => simp [intOf]; omega
            | false =>
              have HS2 : Hid (M.fine W H G P ((es.take (k + 1)).map (·.s)) = false) := Lib.hid (by rw [HS1.out, hfo]; rfl)
              go_wp2_with fail
              refine wp_region_kept wr.heap.size wr (by kernel_rfl) (by kernel_rfl) (Below.refl _ _) ?_
              repeat (go_big_quiet_step (fail))
              refine wpQuiet_nil ?_
              rintro w5 ⟨⟨_, hb5⟩, rfl⟩
              go_wp2_with fail
              go_roundw
              case rel => exact ⟨k + 1, hlt, by go_num, by rw [HS2.out], after_ hBr hb5⟩
              case measure => simp [intOf]; omega
          · have hks : es.take k = es := List.take_of_length_le (by omega)
            rw [hks, hfi]
            clear hks
            obtain ⟨c0, c1, c2, c3⟩ := lw.t.c4
            obtain ⟨d0, d1⟩ := cb.c2
            go_wp2_with fail
            clear c0 c1 c2 c3 d0 d1
            refine (rHas_any W H GA PA gc pc G P cx cy _ lw.g lw.p (by omega)).mono ?_
            rintro e x4 ⟨rfl, hbx⟩
            replace lw := lw.next hbx
            replace cb := cb.below hbx
            replace hL := (hL.below hbx).more hbx.size
            replace hP := hP.below hbx
            replace sb := sb.below hbx
            clear hbx
            rw [hha]
            go_wp2_with fail
            have k0 := heldS lw.t cb sb
            replace lw := lw.next (Below.refl _ _).drew
            replace cb := cb.below (Below.refl _ _).drew
            replace sb := sb.below (Below.refl _ _).drew
            replace hP := hP.below (Below.refl _ _).drew
            replace hL := hL.drew
            have k1 := heldS lw.t cb sb
            have HE : Hid (bsl (Bs.els sn 0) = M.refServed W G cx cy (es.map (·.s))) := Lib.hid (by rw [← HSN.out]; exact M.served_list HI.out)
            have hlen : (bsl (Bs.els sn 0)).length ≤ 512 := by rw [bsl_len]; exact Bs.els_len _ _
            have tok1 : True := trivial
            go_region_held3 (fun w' => w'.cell? ⟨w.heap.size, 0, none⟩ = some (.int .i64 W) ∧ w'.cell? ⟨w.heap.size, 1, none⟩ = some (.int .i64 H) ∧ w'.cell? ⟨w.heap.size, 2, none⟩ = some (.slice GA G.length gc) ∧ w'.cell? ⟨w.heap.size, 3, none⟩ = some (.slice PA P.length pc) ∧ w'.cell? ⟨w.heap.size + 1, 0, none⟩ = some (.int .i64 cx) ∧ w'.cell? ⟨w.heap.size + 1, 1, none⟩ = some (.int .i64 cy) ∧ w'.cell? ⟨x1.heap.size, 0, none⟩ = some (.int .u64 (Bs.wd sn 0 : Nat)) ∧ w'.cell? ⟨x1.heap.size, 1, none⟩ = some (.int .u64 (Bs.wd sn 1 : Nat)) ∧ w'.cell? ⟨x1.heap.size, 2, none⟩ = some (.int .u64 (Bs.wd sn 2 : Nat)) ∧ w'.cell? ⟨x1.heap.size, 3, none⟩ = some (.int .u64 (Bs.wd sn 3 : Nat)) ∧ w'.cell? ⟨x1.heap.size, 4, none⟩ = some (.int .u64 (Bs.wd sn 4 : Nat)) ∧ w'.cell? ⟨x1.heap.size, 5, none⟩ = some (.int .u64 (Bs.wd sn 5 : Nat)) ∧ w'.cell? ⟨x1.heap.size, 6, none⟩ = some (.int .u64 (Bs.wd sn 6 : Nat)) ∧ w'.cell? ⟨x1.heap.size, 7, none⟩ = some (.int .u64 (Bs.wd sn 7 : Nat))) (first | with_reducible exact heldS lw.t cb sb | with_reducible exact k1 | with_reducible exact k0)
              (first
                | (go_at_call 29; (refine (bsList_ok sn _ lw.tab64).mono ?_; rintro e y1 ⟨RA, rc, rfl, hR, hb1⟩; replace lw := lw.next hb1; replace cb := cb.below hb1; replace sb := sb.below hb1; replace hL := (hL.below hb1).more hb1.size; replace hP := hP.below hb1))
                | (go_at_call 30; (refine (rServed_ok W H GA PA gc pc G P LA lc es cx cy _ lw.g hL hP (by omega) HF.out).mono ?_; rintro e y2 ⟨RB, rd, rfl, hR2, hb2⟩; rw [← HE.out] at hR2; rw [← HE.out]; replace lw := lw.next hb2; replace cb := cb.below hb2; replace sb := sb.below hb2; replace hL := (hL.below hb2).more hb2.size; replace hP := hP.below hb2; replace hR := (hR.below hb2).more hb2.size))
                | (go_at_call 20; (have kE := equal14_any RA RB rc rd _ _ _ hR hR2 (by omega); rw [decide_eq_true rfl] at kE; refine kE.mono ?_; rintro e y4 ⟨rfl, hb4⟩; clear kE; replace lw := lw.next hb4; replace cb := cb.below hb4; replace sb := sb.below hb4; replace hL := (hL.below hb4).more hb4.size; replace hP := hP.below hb4)))
            obtain ⟨c0, c1, c2, c3⟩ := lw.t.c4
            go_wp2_with fail
            clear c0 c1 c2 c3
            refine (rReach_ok W H GA PA gc pc G P LA lc es _ lw.g lw.p hL hP (by omega) htv hob).mono ?_
            rintro e x5 ⟨rfl, hbx⟩
            replace lw := lw.next hbx
            replace cb := cb.below hbx
            replace hL := (hL.below hbx).more hbx.size
            replace hP := hP.below hbx
            replace sb := sb.below hbx
            clear hbx
            rw [hr0]
            have q9 : (vr == vr) = true := by simp
            go_wp2_with fail
            refine lw.known.mono ?_
            rintro e x9 ⟨rfl, hb9⟩
            go_wp2_with fail
            go_ret
            exact ⟨rfl, hb9⟩
end Go.Proofs.YtihepapjopcagaaGreatDoor
end
