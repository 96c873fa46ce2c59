/- The walk of the law StationStrongest. -/
import Derived.Test.YtfcaikahdcpglaaDoorLawF
import Derived.Test.YtfcaikahdcpglaaDoorRStr
namespace Go.Proofs.YtfcaikahdcpglaaDoor
open Go Go.RowKit
set_option maxRecDepth 100000

set_option maxHeartbeats 16000000 in
theorem stationStrongest_walk (W H : Int) (GA PA : Option Addr) (gc pc : Nat) (G P : List Int) (LA : Option Addr) (lc : Nat) (es : List SE) (cx cy : Int) (w : World) (ht : Tab w) (hg : Sl 1 icell w w.heap.size GA G) (hp : Sl 1 icell w w.heap.size PA P) (hL : Sl 8 secell w w.heap.size LA es) (hP : Pats w es) :
    Calls Tryd.prog 4 #[tv W H GA PA G.length gc P.length pc, .slice LA es.length lc, cv cx cy] w (LawTrue w) := by
  obtain ⟨V, HW, x0, x1, hB, -⟩ := boxes2 w #[.int .i64 W, .int .i64 H, .slice GA G.length gc, .slice PA P.length pc] 24 #[.int .i64 cx, .int .i64 cy] 30
  have hL1 := (hL.below hB).more hB.size
  obtain ⟨c0, c1, c2, c3⟩ := x0.c4
  have hV := HW.out
  go_enter Tryd.func4, Tryd.ntmps4
  go_wp2_with fail
  clear hV c0 c1 c2 c3
  refine (big_any W H GA PA gc pc G.length P.length LA lc es V hL1).mono ?_
  rintro e w1 ⟨rfl, hb1⟩
  have B1 := after_ hB hb1
  cases hbig : M.big13 G.length P.length (es.map (·.s)) with
  | true =>
    go_wp2_with fail
    refine (known_any w1 (ht.kept B1)).mono ?_
    rintro e w2 ⟨rfl, hb2⟩
    go_wp2_with fail
    go_ret
    exact ⟨rfl, after_ B1 hb2⟩
  | false =>
    obtain ⟨hgl, hpl, hl8, hpat⟩ : G.length ≤ 300 ∧ P.length ≤ 300 ∧ es.length ≤ 8 ∧ ∀ e ∈ es, e.s.pat.length ≤ 1000 := by
      unfold M.big13 at hbig
      simp at hbig
      refine ⟨by omega, by omega, by omega, fun e he => ?_⟩
      have := hbig.2 e he
      omega
    clear hbig
    have hg1 := (hg.below B1).more B1.size
    have hp1 := (hp.below B1).more B1.size
    have hL2 := (hL.below B1).more B1.size
    obtain ⟨c0, c1, c2, c3⟩ := (x0.below hb1).c4
    obtain ⟨d0, d1⟩ := (x1.below hb1).c2
    go_wp2_with fail
    clear c0 c1 c2 c3 d0 d1
    refine (strongest_any W H GA PA gc pc G P LA lc es cx cy w1 (ht.kept B1) hg1 hp1 hL2 (hP.below B1) (by omega) (by omega) (by omega) hpat).mono ?_
    rintro e w2 ⟨rfl, hb2⟩
    obtain ⟨r1, r2, r3, hr⟩ : ∃ r1 r2 r3, M.strongR W H G P (es.map (·.s)) cx cy = (r1, r2, r3) := ⟨_, _, _, rfl⟩
    rw [hr]
    dsimp only
    have HR := Lib.hid hr
    clear hr
    have B2 := after_ B1 hb2
    have y0 := (x0.below hb1).below hb2
    have y1 := (x1.below hb1).below hb2
    obtain ⟨c0, c1, c2, c3⟩ := y0.c4
    obtain ⟨d0, d1⟩ := y1.c2
    go_wp2_with fail
    clear c0 c1 c2 c3 d0 d1
    refine (rHas_any W H GA PA gc pc G P cx cy w2 ((hg.below B2).more B2.size) ((hp.below B2).more B2.size) (by omega)).mono ?_
    rintro e w3 ⟨rfl, hb3⟩
    have B3 := after_ B2 hb3
    have z0 := y0.below hb3
    have z1 := y1.below hb3
    obtain ⟨hc, HC⟩ : ∃ hc, Hid (M.has W H G P cx cy = hc) := ⟨_, Lib.hid rfl⟩
    rw [HC.out]
    clear y0 y1 hb1 hb2 hb3 B1 B2 hg1 hp1 hL2 hL1
    go_wp2_with fail
    go_loopw [10, 11] (fun f i wr => ∃ k : Nat, k ≤ es.length ∧ i = .int .i64 k ∧ Below w.heap.size w wr ∧ Below w3.heap.size w3 wr ∧ ∃ b, f = .bool b ∧ Hid (b = (hc && ((es.map (·.s)).take k).all fun s => M.okF W H G P s cx cy))) (fun _ i _ => es.length - (intOf i).toNat)
    case atStart => exact ⟨0, Nat.zero_le _, rfl, B3, Below.refl _ _, hc, rfl, Lib.hid (by simp)⟩
    case round =>
      obtain ⟨k, hk, rfl, hBw, hBr, b, rfl, HB⟩ := hrel
      by_cases hlt : k < es.length
      · obtain ⟨la, rfl, hlb, a0, a1, a2, a3, a4, a5, a6, a7⟩ := ((hL.below hBw).more hBw.size).st8 hlt
        have hS1 := (hP.below hBw).at_ hlt
        have hg1 := (hg.below hBw).more hBw.size
        have hp1 := (hp.below hBw).more hBw.size
        have hpk := hpat _ (List.getElem_mem hlt)
        obtain ⟨ok, HO⟩ : ∃ ok, Hid (M.okF W H G P es[k].s cx cy = ok) := ⟨_, Lib.hid rfl⟩
        have kA : Hid (∀ w1, Sl 1 icell w1 w1.heap.size GA G → Sl 1 icell w1 w1.heap.size PA P → Sl 1 icell w1 w1.heap.size es[k].A es[k].s.pat → Calls Tryd.prog 11 #[tv W H GA PA G.length gc P.length pc, stv es[k].s es[k].A es[k].c, cv cx cy] w1 fun e w' => e = .returned (.bool ok) ∧ Below w1.heap.size w1 w') := Lib.hid (fun w1 h1 h2 h3 => by rw [← HO.out]; exact rAllowed_any W H GA PA gc pc G P _ _ _ cx cy w1 h1 h2 h3 (by omega) (by omega))
        have HN : Hid (∀ b', b' = (b && ok) → b' = (hc && ((es.map (·.s)).take (k + 1)).all fun s => M.okF W H G P s cx cy)) := Lib.hid (fun b' h => by
          rw [h, HB.out, List.take_succ_eq_append_getElem (by simpa using hlt), List.all_append]
          simp [HO.out, Bool.and_assoc])
        have u0 := z0.below hBr
        have u1 := z1.below hBr
        obtain ⟨c0, c1, c2, c3⟩ := u0.c4
        obtain ⟨d0, d1⟩ := u1.c2
        have l0 := u0.lt
        have l1 := u1.lt
        clear HB HO
        cases b
        · have HN2 := Lib.hid (HN.out false rfl)
          go_wp2_with fail
          refine wp_region_kept wr.heap.size wr (by kernel_rfl) (by kernel_rfl) (Below.refl _ _) ?_
          repeat (go_big_quiet_step ((go_at_call 11; exact Kept.calls (Nat.le_refl _) (kA.out _ hg1.kept hp1.kept hS1.kept))))
          refine wpQuiet_nil ?_
          rintro w5 ⟨⟨_, hb5⟩, rfl⟩
          go_wp2_with fail
          go_roundw
          case rel => exact ⟨k + 1, hlt, by go_num, after_ hBw hb5, after_ hBr hb5, false, rfl, HN2⟩
          case measure => simp [intOf]; omega
        · have HN2 := Lib.hid (HN.out ok (by simp))
          go_wp2_with fail
          refine wp_region_kept wr.heap.size wr (by kernel_rfl) (by kernel_rfl) (Below.refl _ _) ?_
          repeat (go_big_quiet_step ((go_at_call 11; exact Kept.calls (Nat.le_refl _) (kA.out _ hg1.kept hp1.kept hS1.kept))))
          refine wpQuiet_nil ?_
          rintro w5 ⟨⟨_, hb5⟩, rfl⟩
          go_wp2_with fail
          go_roundw
          case rel => exact ⟨k + 1, hlt, by go_num, after_ hBw hb5, after_ hBr hb5, ok, rfl, HN2⟩
          case measure => simp [intOf]; omega
      · have hkl : k = es.length := by omega
        have HB2 : Hid (b = (M.has W H G P cx cy && (es.map (·.s)).all fun s => M.okF W H G P s cx cy)) := Lib.hid (by rw [HB.out, HC.out, List.take_of_length_le (by simp; omega)])
        clear HB hkl
        have htab := ht.kept hBw
        cases b
        · obtain ⟨rfl, rfl, rfl⟩ : r1 = 0 ∧ r2 = 0 ∧ r3 = 2 := by
            have h := HR.out
            unfold M.strongR at h
            rw [← HB2.out, if_neg (by decide)] at h
            simp only [Prod.mk.injEq] at h
            omega
          go_wp2_with fail
          refine (known_any wr htab).mono ?_
          rintro e w5 ⟨rfl, hb5⟩
          go_wp2_with fail
          go_ret
          exact ⟨rfl, after_ hBw hb5⟩
        · have HOK : Hid (∀ k (hk : k < es.length), M.okF W H G P es[k].s cx cy = true) := Lib.hid (fun k hk => by
            have := HB2.out
            rw [eq_comm, Bool.and_eq_true, List.all_eq_true] at this
            exact this.2 _ (List.mem_map.2 ⟨_, List.getElem_mem hk, rfl⟩))
          have h := HR.out
          unfold M.strongR at h
          rw [← HB2.out, if_pos rfl] at h
          by_cases h0 : es.length = 0
          · rw [if_pos (by rw [List.eq_nil_of_length_eq_zero h0]; rfl)] at h
            simp only [Prod.mk.injEq] at h
            obtain ⟨rfl, rfl, rfl⟩ := h
            have q0 : ((es.length : Int) == 0) = true := by simp; exact List.eq_nil_of_length_eq_zero h0
            clear h0
            go_wp2_with fail
            refine (known_any wr htab).mono ?_
            rintro e w5 ⟨rfl, hb5⟩
            go_wp2_with fail
            go_ret
            exact ⟨rfl, after_ hBw hb5⟩
          · rw [if_neg (by intro h; exact h0 (by simpa using congrArg List.length h))] at h
            simp only [Prod.mk.injEq] at h
            obtain ⟨q1, q2, rfl⟩ := h
            have Q1 := Lib.hid q1
            have Q2 := Lib.hid q2
            clear q1 q2
            have q0 : ((es.length : Int) == 0) = false := by rw [beq_eq_false_iff_ne]; omega
            have hne : 0 < es.length := by omega
            clear h0
            have u0 := z0.below hBr
            have u1 := z1.below hBr
            obtain ⟨c0, c1, c2, c3⟩ := u0.c4
            obtain ⟨d0, d1⟩ := u1.c2
            go_wp2_with fail
            clear c0 c1 c2 c3 d0 d1
            refine (rStrongest_ok W H GA PA gc pc G P LA lc es cx cy wr ((hg.below hBw).more hBw.size) ((hL.below hBw).more hBw.size) (hP.below hBw) (by omega) HOK.out hne).mono ?_
            rintro e w5 ⟨⟨j, hj, rfl, hst⟩, hb5⟩
            have B5 := after_ hBw hb5
            obtain ⟨la, rfl, hlb, a0, a1, a2, a3, a4, a5, a6, a7⟩ := ((hL.below B5).more B5.size).st8 hj
            have hS := (hP.below B5).at_ hj
            obtain ⟨rfl⟩ : r1 = es[j].s.id := by rw [← Q1.out, hst]
            obtain ⟨rfl⟩ : r2 = M.field W G es[j].s cx cy := by rw [← Q2.out, hst]
            have hok := HOK.out j hj
            clear hst Q1 Q2 HR HB2 HOK
            obtain ⟨U, HU, v0, hBU, -⟩ := boxes1 w5 (stc es[j].s es[j].A es[j].c) 28
            obtain ⟨b0, b1, b2, b3, b4, b5, b6, b7⟩ := v0.c8
            have hU := HU.out
            have BU := after_ B5 hBU
            obtain ⟨c0, c1, c2, c3⟩ := ((u0.below hb5).below hBU).c4
            obtain ⟨d0, d1⟩ := ((u1.below hb5).below hBU).c2
            have q1 : (es[j].s.id == es[j].s.id) = true := by simp
            go_wp2_with fail
            clear hU
            refine (rField_ok W H GA PA gc pc G P es[j].s es[j].A es[j].c cx cy U ((hg.below BU).more BU.size) ((hS.below hBU).more hBU.size) hok).mono ?_
            rintro e w6 ⟨rfl, hb6⟩
            have B6 := after_ BU hb6
            have q2 : (M.field W G es[j].s cx cy == M.field W G es[j].s cx cy) = true := by simp
            go_wp2_with fail
            refine (known_any w6 (ht.kept B6)).mono ?_
            rintro e w7 ⟨rfl, hb7⟩
            go_wp2_with fail
            go_ret
            exact ⟨rfl, after_ B6 hb7⟩
end Go.Proofs.YtfcaikahdcpglaaDoor
