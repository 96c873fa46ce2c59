/- A bundle of texts: Bw6, LwBu, HoM6, Ho6. -/
import Derived.Test.YtciolgmljpamlaaGreatDoorC36
import Derived.Test.YtciolgmljpamlaaGreatDoorC40
import Derived.Deep.RegionLaw
section
namespace Go.Proofs.YtciolgmljpamlaaGreatDoor
open Go Go.RowKit
set_option maxRecDepth 100000
structure BW6 (w : World) (b0 : Nat) (W H : Int) (GA PA : Option Addr) (gc pc : Nat) (G P : List Int) (LA : Option Addr) (es : List SE) : Prop where
  bt : Box w b0 #[.int .i64 W, .int .i64 H, .slice GA G.length gc, .slice PA P.length pc] 24
  g : Sl 1 icell w w.heap.size GA G
  p : Sl 1 icell w w.heap.size PA P
  l : Sl 8 secell w w.heap.size LA es
  ps : Pats w es
theorem BW6.next {w w' : World} {b0 : Nat} {W H : Int} {GA PA : Option Addr} {gc pc : Nat} {G P : List Int} {LA : Option Addr} {es : List SE} (h : BW6 w b0 W H GA PA gc pc G P LA es) (hb : Below w.heap.size w w') : BW6 w' b0 W H GA PA gc pc G P LA es :=
  ⟨h.bt.below hb, (h.g.below hb).more hb.size, (h.p.below hb).more hb.size, (h.l.below hb).more hb.size, fun e he => ((h.ps e he).below hb).more hb.size⟩
namespace M
theorem small6_ps {W H : Int} {gl pl n : Nat} {l : List St} (h : small W H gl pl (n : Int) l = true) : gl ≤ n ∧ pl ≤ n ∧ ∀ s ∈ l, s.pat.length ≤ 20 := by
  unfold small at h
  simp only [Bool.and_eq_true, List.all_eq_true, decide_eq_true_eq] at h
  exact ⟨by omega, by omega, h.1⟩
theorem cbOk_iff {W H : Int} {G P : List Int} {l : List St} (hl : l.length ≤ 64) : cbOk W H G P l ↔ allowed W H G P l = true ∧ rising l := by
  unfold cbOk allowed
  rw [Bool.and_eq_true, List.all_eq_true]
  constructor
  · rintro ⟨-, h1, h2, h3⟩
    refine ⟨⟨h1, fun x hx => ?_⟩, rising_of h2⟩
    obtain ⟨k, hk, rfl⟩ := List.getElem_of_mem hx
    exact h3 k hk
  · rintro ⟨⟨h1, h2⟩, h3⟩
    refine ⟨hl, h1, fun k hk => ?_, fun k hk => h2 _ (List.getElem_mem hk)⟩
    exact List.pairwise_iff_getElem.1 h3 k (k + 1) (by omega) hk (by omega)
theorem built_len {W H : Int} {G P : List Int} {b : Int} {l : List St} (hl : l.length ≤ 4) : (gP W H G P b l).length ≤ 48 ∧ (gL W H G P b l).length ≤ 16 ∧ (gC W H G P b l).length ≤ 4 := by
  have e : (l.map (inB b)).length = l.length := by rw [List.length_map]
  refine ⟨Nat.le_trans (bP_len _) ?_, Nat.le_trans (rL_len _) ?_, Nat.le_trans (bC_len _) ?_⟩
  · rw [e]; exact Nat.mul_le_mul hl (show l.length * 3 ≤ 12 by omega)
  · rw [e]; exact Nat.mul_le_mul hl hl
  · rw [e]; exact hl
end M
theorem cbuild_all (W H : Int) (GA PA : Option Addr) (gc pc : Nat) (G P : List Int) (LA : Option Addr) (lc : Nat) (es : List SE) (b : Int) (w : World) (ht : Tab w) (hg : Sl 1 icell w w.heap.size GA G) (hp : Sl 1 icell w w.heap.size PA P) (hL : Sl 8 secell w w.heap.size LA es) (hP : Pats w es) (hn : es.length ≤ 4) (h1 : G.length ≤ 10000) (h2 : P.length ≤ 10000) (hpl : ∀ e ∈ es, e.s.pat.length ≤ 1000) :
    ∃ (r1 r2 : List P5) (r3 : List P4) (er : Int), Calls Tryz.prog 24 #[tv W H GA PA G.length gc P.length pc, .slice LA es.length lc, .int .i64 b] w (RetR w (r1, r2, r3) er) ∧ (r1.length ≤ 48 ∧ r2.length ≤ 16 ∧ r3.length ≤ 4) ∧ (((1 ≤ b ∧ b ≤ 3) ∧ M.allowed W H G P (es.map (·.s)) = true ∧ M.rising (es.map (·.s))) → r1 = M.gP W H G P b (es.map (·.s)) ∧ r2 = M.gL W H G P b (es.map (·.s)) ∧ r3 = M.gC W H G P b (es.map (·.s)) ∧ er = 0) ∧ (¬ ((1 ≤ b ∧ b ≤ 3) ∧ M.allowed W H G P (es.map (·.s)) = true ∧ M.rising (es.map (·.s))) → r1 = [] ∧ r2 = [] ∧ r3 = [] ∧ er = 2) := by
  have hm : (es.map (·.s)).length ≤ 64 := by rw [List.length_map]; omega
  have hc := M.cbOk_iff (W := W) (H := H) (G := G) (P := P) hm
  by_cases hb : 1 ≤ b ∧ b ≤ 3
  · by_cases hok : M.cbOk W H G P (es.map (·.s))
    · refine ⟨_, _, _, _, cbuild_ok W H GA PA gc pc G P LA lc es b w ht hg hp hL hP hn hb hok, M.built_len (by rw [List.length_map]; exact hn), fun _ => ⟨rfl, rfl, rfl, rfl⟩, fun h => absurd ⟨hb, hc.1 hok⟩ h⟩
    · refine ⟨_, _, _, _, cbuild_arg W H GA PA gc pc G P LA lc es b w ht hg hp hL hP (by omega) (by omega) (by omega) hpl (by unfold M.chOk; exact decide_eq_true hb) hok, ⟨by simp, by simp, by simp⟩, fun h => absurd (hc.2 h.2) hok, fun _ => ⟨rfl, rfl, rfl, rfl⟩⟩
  · refine ⟨_, _, _, _, cbuild_band W H GA PA gc pc G.length P.length LA lc es.length b w (by unfold M.chOk; exact decide_eq_false hb), ⟨by simp, by simp, by simp⟩, fun h => absurd h.1 hb, fun _ => ⟨rfl, rfl, rfl, rfl⟩⟩
end Go.Proofs.YtciolgmljpamlaaGreatDoor
end

section
namespace Go.Proofs.YtciolgmljpamlaaGreatDoor
open Go Go.RowKit
set_option maxRecDepth 100000
set_option maxHeartbeats 32000000 in
theorem constraintBuilds_walk (W H : Int) (GA PA : Option Addr) (gc pc : Nat) (G P : List Int) (LA : Option Addr) (lc : Nat) (es : List SE) (b : Int) (w : World) (ht : Tab w) (hg : Sl 1 icell w w.heap.size GA G) (hp : Sl 1 icell w w.heap.size PA P) (hL : Sl 8 secell w w.heap.size LA es) (hP : Pats w es) :
    Calls Tryz.prog 6 #[tv W H GA PA G.length gc P.length pc, .slice LA es.length lc, .int .i64 b] w fun e w' => e = .returned (.bool true) ∧ Below w.heap.size w w' := by
  obtain ⟨V, HW, x0, hB, -⟩ := boxes1 w #[.int .i64 W, .int .i64 H, .slice GA G.length gc, .slice PA P.length pc] 24
  have lw : LW6 w V := ⟨ht.kept hB, hB⟩
  have bw : BW6 V w.heap.size W H GA PA gc pc G P LA es := ⟨x0, (hg.below hB).more hB.size, (hp.below hB).more hB.size, (hL.below hB).more hB.size, fun e he => ((hP e he).below hB).more hB.size⟩
  clear x0 hB hg hp hL hP
  by_cases h4 : es.length ≤ 4
  case neg =>
    have q0 : decide ((4 : Int) < (es.length : Int)) = true := decide_eq_true (by omega)
    have hV := HW.out
    go_enter Tryz.func6, Tryz.ntmps6
    go_wp2_with fail
    clear hV q0
    go_wp2_with fail
    refine lw.known.mono ?_
    rintro e x9 ⟨rfl, hb9⟩
    go_wp2_with fail
    go_ret
    exact ⟨rfl, hb9⟩
  have q0 : decide ((4 : Int) < (es.length : Int)) = false := decide_eq_false (by omega)
  have kS := rSmall_any W H GA PA gc pc G.length P.length 25 LA lc es V bw.l (by omega)
  obtain ⟨sm, hsm⟩ : ∃ sm, M.small W H G.length P.length 25 (es.map (·.s)) = sm := ⟨_, rfl⟩
  rw [hsm] at kS
  obtain ⟨c0, c1, c2, c3⟩ := bw.bt.c4
  have hV := HW.out
  go_enter Tryz.func6, Tryz.ntmps6
  go_wp2_with fail
  clear hV c0 c1 c2 c3 q0
  refine kS.mono ?_
  rintro e w1 ⟨rfl, hb1⟩
  replace lw := lw.next hb1
  replace bw := bw.next hb1
  clear kS hb1
  cases sm with
  | false =>
    clear hsm
    go_wp2_with fail
    refine lw.known.mono ?_
    rintro e x9 ⟨rfl, hb9⟩
    go_wp2_with fail
    go_ret
    exact ⟨rfl, hb9⟩
  | true =>
    obtain ⟨hgl, hpl, hps⟩ := M.small6_ps (n := 25) hsm
    have HPS : Hid (∀ e ∈ es, e.s.pat.length ≤ 1000) := Lib.hid (fun e he => Nat.le_trans (hps e.s (List.mem_map.2 ⟨e, he, rfl⟩)) (by decide))
    clear hsm hps
    obtain ⟨r1, r2, r3, er, kB, hln, hyes, hno⟩ := cbuild_all W H GA PA gc pc G P LA lc es b w1 lw.tab bw.g bw.p bw.l bw.ps h4 (by omega) (by omega) HPS.out
    obtain ⟨hl1, hl2, hl3⟩ := hln
    have HYES := Lib.hid hyes
    have HNO := Lib.hid hno
    clear hyes hno
    obtain ⟨c0, c1, c2, c3⟩ := bw.bt.c4
    go_wp2_with fail
    clear c0 c1 c2 c3
    refine kB.mono ?_
    rintro e w2 ⟨A1, xc1, B1, yc1, C1, zc1, rfl, rw1, cp1, hb2, -⟩
    replace lw := lw.next hb2
    replace bw := bw.next hb2
    clear kB hb2
    obtain ⟨U, HU, bx1, hbx, -⟩ := boxes1 w2 #[.slice A1 r1.length xc1, .slice B1 r2.length yc1, .slice C1 r3.length zc1] 30
    replace lw := lw.next hbx
    replace bw := bw.next hbx
    have rr : R6 U w2.heap.size A1 B1 C1 xc1 yc1 zc1 r1 r2 r3 := ⟨bx1, rw1.next hbx, cp1⟩
    clear hbx bx1 rw1 cp1
    have kA := rAllowed15_any W H GA PA gc pc G P LA lc es U bw.g bw.p bw.l bw.ps (by omega) (by omega) HPS.out
    obtain ⟨al, hal⟩ : ∃ al, M.allowed W H G P (es.map (·.s)) = al := ⟨_, rfl⟩
    rw [hal] at kA
    have HAL := Lib.hid hal
    clear hal
    obtain ⟨c0, c1, c2, c3⟩ := bw.bt.c4
    have hp := HU.out
    go_wp2_with fail
    clear hp c0 c1 c2 c3
    refine kA.mono ?_
    rintro e w3 ⟨rfl, hb3⟩
    replace lw := lw.next hb3
    replace bw := bw.next hb3
    replace rr := rr.next hb3
    clear kA hb3
    cases al with
    | false =>
      obtain ⟨rfl, rfl, rfl, rfl⟩ := HNO.out (fun h => by rw [HAL.out] at h; exact absurd h.2.1 (by decide))
      clear HNO HYES
      obtain ⟨s0, s1, s2⟩ := rr.box.c3
      go_wp2_with fail
      clear s0 s1 s2
      refine (same16_any A1 B1 C1 none none none xc1 yc1 zc1 0 0 0 [] [] [] [] [] [] _ rr.r ⟨Sl.nil_, Sl.nil_, Sl.nil_⟩ (by simp)).mono ?_
      rintro e w5 ⟨rfl, hb5⟩
      replace lw := lw.next hb5
      clear hb5
      go_wp2_with fail
      refine lw.known.mono ?_
      rintro e x9 ⟨rfl, hb9⟩
      go_wp2_with fail
      go_ret
      exact ⟨rfl, hb9⟩
    | true =>
      have kR := rising16_any LA lc es w3 bw.l (by omega)
      go_wp2_with fail
      refine kR.mono ?_
      rintro e w4 ⟨⟨rs, rfl, hrs⟩, hb4⟩
      have HRS := Lib.hid hrs
      replace lw := lw.next hb4
      replace bw := bw.next hb4
      replace rr := rr.next hb4
      clear kR hb4 hrs
      cases rs with
      | false =>
        obtain ⟨rfl, rfl, rfl, rfl⟩ := HNO.out (fun h => by have := HRS.out.2 h.2.2; cases this)
        clear HNO HYES
        obtain ⟨s0, s1, s2⟩ := rr.box.c3
        go_wp2_with fail
        clear s0 s1 s2
        refine (same16_any A1 B1 C1 none none none xc1 yc1 zc1 0 0 0 [] [] [] [] [] [] _ rr.r ⟨Sl.nil_, Sl.nil_, Sl.nil_⟩ (by simp)).mono ?_
        rintro e w5 ⟨rfl, hb5⟩
        replace lw := lw.next hb5
        clear hb5
        go_wp2_with fail
        refine lw.known.mono ?_
        rintro e x9 ⟨rfl, hb9⟩
        go_wp2_with fail
        go_ret
        exact ⟨rfl, hb9⟩
      | true =>
        by_cases g1 : b < 1
        case pos =>
          have p1 : decide (b < 1) = true := decide_eq_true g1
          obtain ⟨rfl, rfl, rfl, rfl⟩ := HNO.out (fun h => by omega)
          clear HNO HYES
          obtain ⟨s0, s1, s2⟩ := rr.box.c3
          go_wp2_with fail
          clear s0 s1 s2
          refine (same16_any A1 B1 C1 none none none xc1 yc1 zc1 0 0 0 [] [] [] [] [] [] _ rr.r ⟨Sl.nil_, Sl.nil_, Sl.nil_⟩ (by simp)).mono ?_
          rintro e w5 ⟨rfl, hb5⟩
          replace lw := lw.next hb5
          clear hb5
          go_wp2_with fail
          refine lw.known.mono ?_
          rintro e x9 ⟨rfl, hb9⟩
          go_wp2_with fail
          go_ret
          exact ⟨rfl, hb9⟩
        have p1 : decide (b < 1) = false := decide_eq_false g1
        by_cases g2 : 3 < b
        case pos =>
          have p2 : decide (3 < b) = true := decide_eq_true g2
          obtain ⟨rfl, rfl, rfl, rfl⟩ := HNO.out (fun h => by omega)
          clear HNO HYES
          obtain ⟨s0, s1, s2⟩ := rr.box.c3
          go_wp2_with fail
          clear s0 s1 s2
          refine (same16_any A1 B1 C1 none none none xc1 yc1 zc1 0 0 0 [] [] [] [] [] [] _ rr.r ⟨Sl.nil_, Sl.nil_, Sl.nil_⟩ (by simp)).mono ?_
          rintro e w5 ⟨rfl, hb5⟩
          replace lw := lw.next hb5
          clear hb5
          go_wp2_with fail
          refine lw.known.mono ?_
          rintro e x9 ⟨rfl, hb9⟩
          go_wp2_with fail
          go_ret
          exact ⟨rfl, hb9⟩
        have p2 : decide (3 < b) = false := decide_eq_false g2
        have hb13 : 1 ≤ b ∧ b ≤ 3 := ⟨by omega, by omega⟩
        obtain ⟨e1, e2, e3, rfl⟩ := HYES.out ⟨hb13, HAL.out, HRS.out.1 rfl⟩
        have kC : Hid (∀ wx, Below w4.heap.size w4 wx → Calls Tryz.prog 27 #[tv W H GA PA G.length gc P.length pc, .slice LA es.length lc, .int .i64 b] wx (RetR1 wx (r1, r2, r3))) := Lib.hid (fun wx hbx => by
          have bx := bw.next hbx
          rw [e1, e2, e3]
          exact rbuild16_ok W H GA PA gc pc G P LA lc es b wx bx.g bx.p bx.l bx.ps h4 hb13 ((M.cbOk_iff (by rw [List.length_map]; omega)).2 ⟨HAL.out, HRS.out.1 rfl⟩))
        clear e1 e2 e3 HYES HNO
        have kQ : Hid (∀ (wx : World) (XQ YQ ZQ : Option Addr) (xq yq zq : Nat), Below w4.heap.size w4 wx → RW wx XQ YQ ZQ r1 r2 r3 → Calls Tryz.prog 26 #[ruv A1 r1.length xc1 B1 r2.length yc1 C1 r3.length zc1, ruv XQ r1.length xq YQ r2.length yq ZQ r3.length zq] wx fun e w' => e = .returned (.bool true) ∧ Below wx.heap.size wx w') := Lib.hid (fun wx XQ YQ ZQ xq yq zq hbx hq => by
          have := same16_any A1 B1 C1 XQ YQ ZQ xc1 yc1 zc1 xq yq zq r1 r2 r3 r1 r2 r3 wx (rr.next hbx).r hq (by omega)
          rw [decide_eq_true ⟨rfl, rfl, rfl⟩] at this
          exact this)
        have kN : Hid (∀ wx, Below w4.heap.size w4 wx → Calls Tryz.prog 16 #[] wx fun e w' => e = .returned (.bool true) ∧ Below wx.heap.size wx w') := Lib.hid (fun wx hbx => known16_any wx (lw.tab.kept hbx))
        have hel : ∀ wx, Below w4.heap.size w4 wx → wx.cell? ⟨w.heap.size, 0, none⟩ = some (.int .i64 W) ∧ wx.cell? ⟨w.heap.size, 1, none⟩ = some (.int .i64 H) ∧ wx.cell? ⟨w.heap.size, 2, none⟩ = some (.slice GA G.length gc) ∧ wx.cell? ⟨w.heap.size, 3, none⟩ = some (.slice PA P.length pc) ∧ wx.cell? ⟨w2.heap.size, 0, none⟩ = some (.slice A1 r1.length xc1) ∧ wx.cell? ⟨w2.heap.size, 1, none⟩ = some (.slice B1 r2.length yc1) ∧ wx.cell? ⟨w2.heap.size, 2, none⟩ = some (.slice C1 r3.length zc1) := fun wx hbx => by
          obtain ⟨t0, t1, t2, t3⟩ := (bw.next hbx).bt.c4
          obtain ⟨s0, s1, s2⟩ := (rr.next hbx).box.c3
          exact ⟨t0, t1, t2, t3, s0, s1, s2⟩
        have h0 := hel _ (Below.refl _ _)
        have h1 := hel _ (Below.refl w4.heap.size w4).drew
        have hc : Below w4.heap.size w4 w4.drew := (Below.refl _ _).drew
        clear HRS HAL HPS
        go_wp2_with fail
        go_region_held3 (fun w' => w'.cell? ⟨w.heap.size, 0, none⟩ = some (.int .i64 W) ∧ w'.cell? ⟨w.heap.size, 1, none⟩ = some (.int .i64 H) ∧ w'.cell? ⟨w.heap.size, 2, none⟩ = some (.slice GA G.length gc) ∧ w'.cell? ⟨w.heap.size, 3, none⟩ = some (.slice PA P.length pc) ∧ w'.cell? ⟨w2.heap.size, 0, none⟩ = some (.slice A1 r1.length xc1) ∧ w'.cell? ⟨w2.heap.size, 1, none⟩ = some (.slice B1 r2.length yc1) ∧ w'.cell? ⟨w2.heap.size, 2, none⟩ = some (.slice C1 r3.length zc1)) (first | with_reducible exact h0 | with_reducible exact h1 | with_reducible exact hel _ hc)
          (first
            | (go_at_call 27; (refine (kC.out _ hc).mono ?_; rintro e wa ⟨XQ, xq, YQ, yq, ZQ, zq, rfl, rwQ, cpQ, hba⟩; replace hc := hc.trans (hba.mono hc.size); clear hba))
            | (go_at_call 26; (refine (kQ.out _ XQ YQ ZQ xq yq zq hc rwQ).mono ?_; rintro e wb ⟨rfl, hbb⟩; replace hc := hc.trans (hbb.mono hc.size); clear hbb))
            | (go_at_call 16; (refine (kN.out _ hc).mono ?_; rintro e wb ⟨rfl, hbb⟩; replace hc := hc.trans (hbb.mono hc.size); clear hbb)))
        all_goals
          go_wp2_with fail
          go_ret
          exact ⟨rfl, after_ lw.below hc⟩
end Go.Proofs.YtciolgmljpamlaaGreatDoor
end

section
namespace Go.Proofs.YtciolgmljpamlaaGreatDoor
open Go Go.RowKit
namespace M
theorem ls0_le {W H : Int} {G P : List Int} {s t : St} (h : forb W H G P s t 0 = false) : 1000 * ls0 W H G P s t ≤ 5 * ppl W H G P s := by
  unfold forb exc5 at h
  rw [Bool.or_eq_false_iff] at h
  have h1 := of_decide_eq_false h.1
  rw [show ratio 0 = 30 by decide] at h1
  unfold ls0 ppl
  omega
theorem built_valid {W H : Int} {G P : List Int} {b : Int} {l : List St} (hb : 1 ≤ b ∧ b ≤ 3) (hn : l.length ≤ 4) (hok : cbOk W H G P l) : rvalid (gP W H G P b l) (gL W H G P b l) (gC W H G P b l) = true := by
  have hr := rising_of hok.2.2.1
  obtain ⟨t1, t2, t3, t4, t5, t6⟩ := tvalid_iff.1 hok.2.1
  have hwh := wh_le t1 t2
  unfold gP gL gC
  refine build_valid (rising_in hr) (fun s hs => ?_) (by rw [List.length_map]; exact hn) ?_ (fun s _ t _ h => ls0_le h) (fun s _ => ?_)
  · obtain ⟨s', hs', rfl⟩ := List.mem_map.1 hs
    obtain ⟨k, hk, rfl⟩ := List.getElem_of_mem hs'
    exact (svalid_iff.1 (okS_iff.1 (hok.2.2.2 k hk)).1).1
  · rcases (show b = 1 ∨ b = 2 ∨ b = 3 by omega) with e | e | e <;> subst e <;> decide
  · exact totl_bd t6 (Nat.le_trans area_len (by omega))
theorem built_cap {W H : Int} {G P : List Int} {b : Int} {l : List St} (hr : rising l) {c : P4} {p : P5} (hc : c ∈ gC W H G P b l) (hp : p ∈ gL W H G P b l) (e : p.a = c.a) : 2 * p.c ≤ c.b := by
  unfold gC at hc
  unfold gL at hp
  exact build_cap (id := St.id) (fb := forb W H G P) (ls := ls0 W H G P) (lo := chLo b) (hi := chHi b) (pp := ppl W H G P) (rising_in hr) (fun s _ t _ h => ls0_le h) hc hp e
theorem inIds_inB (b : Int) (l : List St) (n : Int) : inIds St.id (l.map (inB b)) n = inIds St.id l n := by
  unfold inIds; rw [List.any_map]; rfl
theorem built_subP {W H : Int} {G P : List Int} {b : Int} {l r : List St} (hr : rising l) (hs : r.Sublist l) : gP W H G P b r = (gP W H G P b l).filter fun p => inIds St.id r p.a && inIds St.id r p.b := by
  unfold gP
  rw [bP_sub (rising_in hr) (hs.map (inB b))]
  simp only [inIds_inB]
theorem built_subL {W H : Int} {G P : List Int} {b : Int} {l r : List St} (hr : rising l) (hs : r.Sublist l) : gL W H G P b r = (gL W H G P b l).filter fun p => inIds St.id r p.a && inIds St.id r p.b := by
  unfold gL
  rw [rL_sub (rising_in hr) (hs.map (inB b))]
  simp only [inIds_inB]
theorem built_subC {W H : Int} {G P : List Int} {b : Int} {l r : List St} (hr : rising l) (hs : r.Sublist l) : gC W H G P b r = (gC W H G P b l).filter fun c => loaded (gL W H G P b r) c.a := by
  unfold gC gL
  exact bC_sub (rising_in hr) (hs.map (inB b))
theorem cbOk_sub {W H : Int} {G P : List Int} {l r : List St} (h : cbOk W H G P l) (hs : r.Sublist l) : cbOk W H G P r := by
  have h2 := hs.length_le
  have h3 := h.1
  rw [cbOk_iff (by omega)] at h ⊢
  refine ⟨?_, h.2.sublist hs⟩
  have h1 := h.1
  unfold allowed at h1 ⊢
  rw [Bool.and_eq_true, List.all_eq_true] at h1 ⊢
  exact ⟨h1.1, fun x hx => h1.2 x (hs.subset hx)⟩
theorem inIds_at {es : List SE} {n : Int} {k : Nat} (hk : k < es.length) (h : es[k].s.id = n) : inIds St.id (es.map (·.s)) n = true := by
  unfold inIds
  rw [List.any_map, List.any_eq_true]
  exact ⟨es[k], List.getElem_mem hk, by simpa using h⟩
theorem inIds_none {es : List SE} {n : Int} (h : ∀ k (hk : k < es.length), es[k].s.id ≠ n) : inIds St.id (es.map (·.s)) n = false := by
  unfold inIds
  rw [List.any_map, List.any_eq_false]
  intro e he
  obtain ⟨k, hk, rfl⟩ := List.getElem_of_mem he
  simpa using h k hk
theorem loaded_succ {l : List P5} {n : Int} {k : Nat} (hk : k < l.length) : loaded (l.take (k + 1)) n = (loaded (l.take k) n || decide ((l[k]).a = n)) := by
  unfold loaded
  rw [List.take_succ_eq_append_getElem hk, List.any_append]
  simp
end M
end Go.Proofs.YtciolgmljpamlaaGreatDoor
end

section
namespace Go.Proofs.YtciolgmljpamlaaGreatDoor
open Go Go.RowKit
set_option maxRecDepth 100000
theorem step_pushH {α : Type} {P : Program} {size : Nat} {cell : α → Nat → Value} {w w0 : World} {ops : Array Oper} {o : Oper} {a : Act} {K : Act → World → Prop} {Q : Exit → Act → World → Prop} {E : Prop} (hgd : o.guard = none) (s x : Operand) (t : TypeId)
    (ho : o.op = .call { callee := .builtin .append, args := #[s, x], argTypes := #[t, t] })
    (base B : Nat) (e : TypeId) (i : TypeInfo) (z : Value) (bytes : Nat) (ht : P.underlying t = some (.slice e)) (hi : P.info? e = some i) (hz : i.zero = some z)
    (hsize : i.size = size) (hby : i.bytes = bytes) (hzs : z.cells.size = size) (hsz : 0 < size)
    (v : Value) (n : Nat) (xs : List α) (y : α) (hs : a.eval s = v) (hown : w.ownsRow base e size v n (flat size cell xs))
    (cs : Array Value) (te : TypeId) (hcs : cs.toList = (List.range size).map (cell y)) (c : Nat) (hx : a.eval x = .slice (some ⟨w.heap.size, 0, none⟩) 1 c) (h1 : ∀ j, (cell y j).oneCell' = true)
    (h63 : n + 1 ≤ maxLen) (hbytes : (n + 1) * bytes ≤ 140737488355328) (hbase : base ≤ w.heap.size) (hBb : B ≤ base) (hB : Below B w0 w)
    (h : ∀ v' w', w'.ownsRow base e size v' (n + 1) (flat size cell (xs ++ [y])) → Below B w0 w' → w.grownBy w' v.ownBlock → K (a.put o.dst v') w') :
    if Region.wanted o (yielded ops a.tmps) = true then Oper.wp P o a (w.alloc (.cells cs te)) K Q else E := by
  have hw : Region.wanted o (yielded ops a.tmps) = true := by simp [Region.wanted, hgd]
  rw [if_pos hw]
  obtain ⟨v', w', hrun, h2, h3, _, h5⟩ := run_append_own_at (P := P) (w.alloc (.cells cs te)) base t o.type e i z size bytes ht hi hz hsize hby hzs hsz v n (flat size cell xs) (hown.alloc _) ⟨w.heap.size, 0, none⟩ 1 c cs.toList (by rw [hcs]; simp) (by
    intro j u hj
    have hb : (w.alloc (.cells cs te)).heap[w.heap.size]? = some (.cells cs te (0, 0)) := heap_alloc_new w _
    have e1 : (⟨w.heap.size, 0, none⟩ : Addr).add j = ⟨w.heap.size, j, none⟩ := by unfold Addr.add; split <;> simp_all
    rw [e1, cell_of_row _ _ _ _ _ _ hb]
    simpa using hj) (by
    intro u hu
    rw [hcs] at hu
    obtain ⟨j, _, rfl⟩ := List.mem_map.1 hu
    exact h1 j) h63 hbytes (by simp; omega)
  unfold Oper.wp execOp
  simp only [ho, resolve, invoke, builtin, Sem.run_bind, Sem.run_pure, Result.andThen_ok, List.map_toArray, List.map_cons, List.map_nil, hs, hx, hrun]
  have hg' := grown_alloc h3
  refine h v' w' (by rw [flat_append, flat_one, ← hcs]; exact h2) (hB.grown hg' (by omega) fun k hk => ?_) hg'
  have := (hown.lt k hk).1
  omega
set_option maxHeartbeats 8000000 in
theorem among_ok (LA : Option Addr) (lc : Nat) (es : List SE) (n : Int) (w : World) (hL : Sl 8 secell w w.heap.size LA es) (hl : es.length ≤ 1000) :
    Calls Tryz.prog 30 #[.slice LA es.length lc, .int .i64 n] w fun e w' => e = .returned (.bool (M.inIds St.id (es.map (·.s)) n)) ∧ Below w.heap.size w w' := by
  go_enter Tryz.func30, Tryz.ntmps30
  go_wp2_with fail
  go_loopw [5] (fun i wr => ∃ k : Nat, k ≤ es.length ∧ i = .int .i64 k ∧ Below w.heap.size w wr ∧ Hid (∀ j (hj : j < es.length), j < k → es[j].s.id ≠ n)) (fun i _ => es.length - (intOf i).toNat)
  case atStart => exact ⟨0, Nat.zero_le _, rfl, Below.refl _ _, Lib.hid (fun j _ h => absurd h (by omega))⟩
  case round =>
    obtain ⟨k, hk, rfl, hBr, HN⟩ := hrel
    by_cases hlt : k < es.length
    · obtain ⟨la, hla, hlb, a0, -⟩ := (hL.below hBr).st8 hlt
      have x0 : (0 : Int) ≤ (k : Int) := by omega
      have x1 : (k : Int) < (es.length : Int) := by omega
      have HS : Hid (es[k].s.id ≠ n → ∀ j (hj : j < es.length), j < k + 1 → es[j].s.id ≠ n) := Lib.hid (fun h j hj h3 => by
        by_cases e : j = k
        · subst e; exact h
        · exact HN.out j hj (by omega))
      have HY : Hid (es[k].s.id = n → M.inIds St.id (es.map (·.s)) n = true) := Lib.hid (M.inIds_at hlt)
      generalize es[k].s.id = qid at *
      subst hla
      by_cases hc : qid = n
      · have q : (qid == n) = true := by simpa using hc
        have HF := Lib.hid (HY.out hc)
        clear HS HY hc
        go_wp2_with fail
        go_ret
        exact ⟨by rw [HF.out]; rfl, hBr⟩
      · have q : (qid == n) = false := by simpa using hc
        have HS2 := Lib.hid (HS.out hc)
        clear HS HY hc
        go_wp2_with fail
        go_roundw
        case rel => exact ⟨k + 1, hlt, by go_num, hBr, HS2⟩
        case measure => simp [intOf]; omega
    · have HF := Lib.hid (M.inIds_none (n := n) (fun j hj => HN.out j hj (by omega)))
      go_wp2_with fail
      go_ret
      exact ⟨by rw [HF.out]; rfl, hBr⟩
set_option maxHeartbeats 32000000 in
theorem hol_p0 {Q : Exit → Act → World → Prop} {cd : Code} {dl : List Deferred} {Z0 Z1 Z2 Z3 Z4 Z5 Z6 Z7 Z8 Z9 Za Zc Zd Ze Zh Zi Zj Zk Zl Zm Zn Zo Zp Zq Zr Zs Zt Zu Zv Zw Zx Zy Zz Z10 Z11 Z12 Z13 Z14 Z15 Z16 Z17 Z18 Z19 Z1a Z1b Z1c Z1d Z1e Z1f Z1g Z1h Z1i Z1j Z1k Z1l Z1m Z1n Z1o Z1p Z1q Z1r Z1s Z1t Z1u Z1v Z1w Z1x Z1y Z1z Z20 Z21 Z22 Z23 Z24 Z25 Z26 Z27 Z28 Z29 Z2a Z2b Z2c Z2d Z2e Z2f Z2g Z2h Z2i Z2j Z2k Z2l Z2m Z2n Z2o Z2p Z2q Z2r Z2s Z2t Z2u Z2v Z2w Z2x Z2y Z2z Z30 Z31 Z32 Z33 Z34 Z35 Z36 Z37 Z38 Z39 Z3a Z3b Z3c Z3d Z3e Z3f Z3g Z3h Z3i Z3j Z3k Z3l Z3m Z3n Z3o Z3p Z3q Z3r Z3s Z3t Z3u Z3v Z3w Z3x Z3y Z3z Z40 Z41 Z42 Z43 Z44 Z45 Z46 Z47 Z48 Z49 Z4a Z4b Z4c Z4d Z4e Z4f Z4g Z4h Z4i Z4j Z4k Z4l Z4m Z4n Z4o Z4p Z4q Z4r Z4s Z4t Z4u Z4v Z4w Z4x Z4y Z4z Z50 Z51 Z52 Z53 Z54 Z55 Z56 Z57 Z58 Z59 Z5a Z5b Z5c Z5d Z5e Z5f Z5g Z5h Z5i Z5j Z5k Z5l Z5m Z5n Z5o Z5p Z5q Z5r Z5s Z5t Z5u Z5v Z5w Z5x Z5y Z5z Z60 Z61 Z62 Z63 Z64 Z65 Z66 Z67 Z68 Z69 Z6a Z6b Z6c Z6d Z6e Z6f Z6g Z6h Z6i Z6j Z6k Z6l Z6m Z6n Z6o Z6p Z6q Z6r Z6s Z6t Z6u Z6v Z6w Z6x Z6y Z6z : Value} (XA YA ZA : Option Addr) (xc yc zc : Nat) (ps ls : List P5) (cs : List P4) (X : World) (rb br k : Nat) (rr : R6 X rb XA YA ZA xc yc zc ps ls cs) (W0 : World) (v1 v2 v3 : Value) (o1 o2 : List P5) (o3 : List P4) (rc : RC X (br + 1) br o1 o2 o3 v1 v2 v3) (hB : Below br W0 X) (hs : br + 1 ≤ X.heap.size) (hlt : k < ps.length) (hol : o1.length ≤ 15000) (hcd : (Tryz.f9.body.bind (regionOf 19)) = some cd)
    (hQ : ∀ (y124 y125 y126 y127 y128 y129 y130 y131 y132 y133 : Value) (wo : World) (v' : Value), RC wo (br + 1) br (o1 ++ [ps[k]]) o2 o3 v' v2 v3 → Below br W0 wo → br + 1 ≤ wo.heap.size → Q .normal ⟨#[Z0,Z1,Z2,Z3,Z4,Z5,Z6,Z7,Z8,Z9,Za,.pointer (some ⟨rb, 0, none⟩),Zc,Zd,Ze,.pointer (some ⟨br, 0, none⟩),.int .i64 k,Zh,Zi,Zj,Zk,Zl,Zm,Zn,Zo,Zp,Zq,Zr,Zs,Zt,Zu,Zv,Zw,Zx,Zy,Zz,Z10,Z11,Z12,Z13,Z14,Z15,Z16,Z17,Z18,Z19,Z1a,Z1b,Z1c,Z1d,Z1e,Z1f,Z1g,Z1h,Z1i,Z1j,Z1k,Z1l,Z1m,Z1n,Z1o,Z1p,Z1q,Z1r,Z1s,Z1t,Z1u,Z1v,Z1w,Z1x,Z1y,Z1z,Z20,Z21,Z22,Z23,Z24,Z25,Z26,Z27,Z28,Z29,Z2a,Z2b,Z2c,Z2d,Z2e,Z2f,Z2g,Z2h,Z2i,Z2j,Z2k,Z2l,Z2m,Z2n,Z2o,Z2p,Z2q,Z2r,Z2s,Z2t,Z2u,Z2v,Z2w,Z2x,Z2y,Z2z,Z30,Z31,Z32,Z33,Z34,Z35,Z36,Z37,Z38,Z39,Z3a,Z3b,Z3c,Z3d,Z3e,Z3f,y124,y125,y126,y127,y128,y129,y130,y131,y132,y133,Z3q,Z3r,Z3s,Z3t,Z3u,Z3v,Z3w,Z3x,Z3y,Z3z,Z40,Z41,Z42,Z43,Z44,Z45,Z46,Z47,Z48,Z49,Z4a,Z4b,Z4c,Z4d,Z4e,Z4f,Z4g,Z4h,Z4i,Z4j,Z4k,Z4l,Z4m,Z4n,Z4o,Z4p,Z4q,Z4r,Z4s,Z4t,Z4u,Z4v,Z4w,Z4x,Z4y,Z4z,Z50,Z51,Z52,Z53,Z54,Z55,Z56,Z57,Z58,Z59,Z5a,Z5b,Z5c,Z5d,Z5e,Z5f,Z5g,Z5h,Z5i,Z5j,Z5k,Z5l,Z5m,Z5n,Z5o,Z5p,Z5q,Z5r,Z5s,Z5t,Z5u,Z5v,Z5w,Z5x,Z5y,Z5z,Z60,Z61,Z62,Z63,Z64,Z65,Z66,Z67,Z68,Z69,Z6a,Z6b,Z6c,Z6d,Z6e,Z6f,Z6g,Z6h,Z6i,Z6j,Z6k,Z6l,Z6m,Z6n,Z6o,Z6p,Z6q,Z6r,Z6s,Z6t,Z6u,Z6v,Z6w,Z6x,Z6y,Z6z], dl⟩ wo) :
    cd.wp Tryz.prog Q ⟨#[Z0,Z1,Z2,Z3,Z4,Z5,Z6,Z7,Z8,Z9,Za,.pointer (some ⟨rb, 0, none⟩),Zc,Zd,Ze,.pointer (some ⟨br, 0, none⟩),.int .i64 k,Zh,Zi,Zj,Zk,Zl,Zm,Zn,Zo,Zp,Zq,Zr,Zs,Zt,Zu,Zv,Zw,Zx,Zy,Zz,Z10,Z11,Z12,Z13,Z14,Z15,Z16,Z17,Z18,Z19,Z1a,Z1b,Z1c,Z1d,Z1e,Z1f,Z1g,Z1h,Z1i,Z1j,Z1k,Z1l,Z1m,Z1n,Z1o,Z1p,Z1q,Z1r,Z1s,Z1t,Z1u,Z1v,Z1w,Z1x,Z1y,Z1z,Z20,Z21,Z22,Z23,Z24,Z25,Z26,Z27,Z28,Z29,Z2a,Z2b,Z2c,Z2d,Z2e,Z2f,Z2g,Z2h,Z2i,Z2j,Z2k,Z2l,Z2m,Z2n,Z2o,Z2p,Z2q,Z2r,Z2s,Z2t,Z2u,Z2v,Z2w,Z2x,Z2y,Z2z,Z30,Z31,Z32,Z33,Z34,Z35,Z36,Z37,Z38,Z39,Z3a,Z3b,Z3c,Z3d,Z3e,Z3f,Z3g,Z3h,Z3i,Z3j,Z3k,Z3l,Z3m,Z3n,Z3o,Z3p,Z3q,Z3r,Z3s,Z3t,Z3u,Z3v,Z3w,Z3x,Z3y,Z3z,Z40,Z41,Z42,Z43,Z44,Z45,Z46,Z47,Z48,Z49,Z4a,Z4b,Z4c,Z4d,Z4e,Z4f,Z4g,Z4h,Z4i,Z4j,Z4k,Z4l,Z4m,Z4n,Z4o,Z4p,Z4q,Z4r,Z4s,Z4t,Z4u,Z4v,Z4w,Z4x,Z4y,Z4z,Z50,Z51,Z52,Z53,Z54,Z55,Z56,Z57,Z58,Z59,Z5a,Z5b,Z5c,Z5d,Z5e,Z5f,Z5g,Z5h,Z5i,Z5j,Z5k,Z5l,Z5m,Z5n,Z5o,Z5p,Z5q,Z5r,Z5s,Z5t,Z5u,Z5v,Z5w,Z5x,Z5y,Z5z,Z60,Z61,Z62,Z63,Z64,Z65,Z66,Z67,Z68,Z69,Z6a,Z6b,Z6c,Z6d,Z6e,Z6f,Z6g,Z6h,Z6i,Z6j,Z6k,Z6l,Z6m,Z6n,Z6o,Z6p,Z6q,Z6r,Z6s,Z6t,Z6u,Z6v,Z6w,Z6x,Z6y,Z6z], dl⟩ X := by
  rw [show (Tryz.f9.body.bind (regionOf 19)) = some (Code.region 19 _ true) from rfl] at hcd
  obtain rfl := Option.some.inj hcd
  clear hcd
  dsimp only at hQ ⊢
  obtain ⟨i0, hi0, hz0, hz1, hz2⟩ := info_parts pairInfo
  have Hi := Lib.hid hi0; have Hz0 := Lib.hid hz0; have Hz1 := Lib.hid hz1; have Hz2 := Lib.hid hz2
  clear hi0 hz0 hz1 hz2
  obtain ⟨p0, p1, p2⟩ := rr.box.c3
  obtain ⟨y0, y1, y2⟩ := rc.box.c3
  have f0 := rc.box.frozen 0
  have la0 := rr.box.lt
  have lr0 := rc.box.lt
  have z0 : (0 : Int) ≤ (k : Int) := by omega
  have g1 : (k : Int) < (ps.length : Int) := by omega
  obtain ⟨la, hla, laB, ex0, hq⟩ := (rr.r.p).sp (by decide) hlt
  have ex1 := hq 1 (by decide) (by decide)
  have ex2 := hq 2 (by decide) (by decide)
  have ex3 := hq 3 (by decide) (by decide)
  have ex4 := hq 4 (by decide) (by decide)
  clear hq rr
  obtain ⟨x, hx⟩ : ∃ x, ps[k] = x := ⟨_, rfl⟩
  rw [hx] at ex0 ex1 ex2 ex3 ex4 hQ
  clear hx
  replace ex0 : X.cell? (la.add (k * 5)) = some (.int .i64 x.a) := ex0
  replace ex1 : X.cell? (⟨(la.add (k * 5)).block, (la.add (k * 5)).off + 1, none⟩) = some (.int .i64 x.b) := ex1
  replace ex2 : X.cell? (⟨(la.add (k * 5)).block, (la.add (k * 5)).off + 2, none⟩) = some (.int .i64 x.c) := ex2
  replace ex3 : X.cell? (⟨(la.add (k * 5)).block, (la.add (k * 5)).off + 3, none⟩) = some (.int .i64 x.d) := ex3
  replace ex4 : X.cell? (⟨(la.add (k * 5)).block, (la.add (k * 5)).off + 4, none⟩) = some (.int .i64 x.e) := ex4
  subst hla
  have rcd := rc.below (Below.refl X.heap.size X).drew
  have hBd := hB.drew
  have hs3 : br + 1 ≤ X.drew.heap.size := hs
  refine wp_region_noPanic ?_
  go_region_law ((refine step_pushH (w := X.drew) (w0 := W0) (cell := p5cell) (y := x) rfl _ _ _ rfl (br + 1) br 66 i0 _ 40 Tryz.underlying26 Hi.out Hz0.out Hz1.out Hz2.out rfl (by decide) v1 o1.length o1 (by simp [Act.eval]) rcd.p _ _ rfl _ (by simp [Act.eval]; rfl) (p5_one _) (by unfold maxLen; omega) (by omega) hs3 (by omega) hBd ?_; intro v' w' hown' hb' hg'; have b1 := rcd.box.grown hg' (rcd.box.ne_own (by decide) rcd.p); obtain ⟨y0, y1, y2⟩ := b1.c3; have f0 := b1.frozen 0; obtain ⟨g', cap', rfl⟩ := ownsRow_succ hown'))
  all_goals refine NoPanic.normal (hQ _ _ _ _ _ _ _ _ _ _ _ _ (rcd.addP (qs := [x]) (Nat.lt_succ_self _) hown' (by rw [List.length_append]; rfl) hg') (hb'.setCell (p := ⟨br, 0, none⟩) (Nat.le_refl _) _) (by rw [World.size_setCell]; exact Nat.le_trans hs3 hg'.size))
set_option maxHeartbeats 32000000 in
theorem hol_p1 {Q : Exit → Act → World → Prop} {cd : Code} {dl : List Deferred} {Z0 Z1 Z2 Z3 Z4 Z5 Z6 Z7 Z8 Z9 Za Zc Zd Ze Zg Zi Zj Zk Zl Zm Zn Zo Zp Zq Zr Zs Zt Zu Zv Zw Zx Zy Zz Z10 Z11 Z12 Z13 Z14 Z15 Z16 Z17 Z18 Z19 Z1a Z1b Z1c Z1d Z1e Z1f Z1g Z1h Z1i Z1j Z1k Z1l Z1m Z1n Z1o Z1p Z1q Z1r Z1s Z1t Z1u Z1v Z1w Z1x Z1y Z1z Z20 Z21 Z22 Z23 Z24 Z25 Z26 Z27 Z28 Z29 Z2a Z2b Z2c Z2d Z2e Z2f Z2g Z2h Z2i Z2j Z2k Z2l Z2m Z2n Z2o Z2p Z2q Z2r Z2s Z2t Z2u Z2v Z2w Z2x Z2y Z2z Z30 Z31 Z32 Z33 Z34 Z35 Z36 Z37 Z38 Z39 Z3a Z3b Z3c Z3d Z3e Z3f Z3g Z3h Z3i Z3j Z3k Z3l Z3m Z3n Z3o Z3p Z3q Z3r Z3s Z3t Z3u Z3v Z3w Z3x Z3y Z3z Z40 Z41 Z42 Z43 Z44 Z45 Z46 Z47 Z48 Z49 Z4a Z4b Z4c Z4d Z4e Z4f Z4g Z4h Z4i Z4j Z4k Z4l Z4m Z4n Z4o Z4p Z4q Z4r Z4s Z4t Z4u Z4v Z4w Z4x Z4y Z4z Z50 Z51 Z52 Z53 Z54 Z55 Z56 Z57 Z58 Z59 Z5a Z5b Z5c Z5d Z5e Z5f Z5g Z5h Z5i Z5j Z5k Z5l Z5m Z5n Z5o Z5p Z5q Z5r Z5s Z5t Z5u Z5v Z5w Z5x Z5y Z5z Z60 Z61 Z62 Z63 Z64 Z65 Z66 Z67 Z68 Z69 Z6a Z6b Z6c Z6d Z6e Z6f Z6g Z6h Z6i Z6j Z6k Z6l Z6m Z6n Z6o Z6p Z6q Z6r Z6s Z6t Z6u Z6v Z6w Z6x Z6y Z6z : Value} (XA YA ZA : Option Addr) (xc yc zc : Nat) (ps ls : List P5) (cs : List P4) (X : World) (rb br k : Nat) (rr : R6 X rb XA YA ZA xc yc zc ps ls cs) (W0 : World) (v1 v2 v3 : Value) (o1 o2 : List P5) (o3 : List P4) (rc : RC X (br + 1) br o1 o2 o3 v1 v2 v3) (hB : Below br W0 X) (hs : br + 1 ≤ X.heap.size) (hlt : k < ls.length) (hol : o2.length ≤ 15000) (hcd : (Tryz.f9.body.bind (regionOf 24)) = some cd)
    (hQ : ∀ (y159 y160 y161 y162 y163 y164 y165 y166 y167 y168 : Value) (wo : World) (v' : Value), RC wo (br + 1) br o1 (o2 ++ [ls[k]]) o3 v1 v' v3 → Below br W0 wo → br + 1 ≤ wo.heap.size → Q .normal ⟨#[Z0,Z1,Z2,Z3,Z4,Z5,Z6,Z7,Z8,Z9,Za,.pointer (some ⟨rb, 0, none⟩),Zc,Zd,Ze,.pointer (some ⟨br, 0, none⟩),Zg,.int .i64 k,Zi,Zj,Zk,Zl,Zm,Zn,Zo,Zp,Zq,Zr,Zs,Zt,Zu,Zv,Zw,Zx,Zy,Zz,Z10,Z11,Z12,Z13,Z14,Z15,Z16,Z17,Z18,Z19,Z1a,Z1b,Z1c,Z1d,Z1e,Z1f,Z1g,Z1h,Z1i,Z1j,Z1k,Z1l,Z1m,Z1n,Z1o,Z1p,Z1q,Z1r,Z1s,Z1t,Z1u,Z1v,Z1w,Z1x,Z1y,Z1z,Z20,Z21,Z22,Z23,Z24,Z25,Z26,Z27,Z28,Z29,Z2a,Z2b,Z2c,Z2d,Z2e,Z2f,Z2g,Z2h,Z2i,Z2j,Z2k,Z2l,Z2m,Z2n,Z2o,Z2p,Z2q,Z2r,Z2s,Z2t,Z2u,Z2v,Z2w,Z2x,Z2y,Z2z,Z30,Z31,Z32,Z33,Z34,Z35,Z36,Z37,Z38,Z39,Z3a,Z3b,Z3c,Z3d,Z3e,Z3f,Z3g,Z3h,Z3i,Z3j,Z3k,Z3l,Z3m,Z3n,Z3o,Z3p,Z3q,Z3r,Z3s,Z3t,Z3u,Z3v,Z3w,Z3x,Z3y,Z3z,Z40,Z41,Z42,Z43,Z44,Z45,Z46,Z47,Z48,Z49,Z4a,Z4b,Z4c,Z4d,Z4e,y159,y160,y161,y162,y163,y164,y165,y166,y167,y168,Z4p,Z4q,Z4r,Z4s,Z4t,Z4u,Z4v,Z4w,Z4x,Z4y,Z4z,Z50,Z51,Z52,Z53,Z54,Z55,Z56,Z57,Z58,Z59,Z5a,Z5b,Z5c,Z5d,Z5e,Z5f,Z5g,Z5h,Z5i,Z5j,Z5k,Z5l,Z5m,Z5n,Z5o,Z5p,Z5q,Z5r,Z5s,Z5t,Z5u,Z5v,Z5w,Z5x,Z5y,Z5z,Z60,Z61,Z62,Z63,Z64,Z65,Z66,Z67,Z68,Z69,Z6a,Z6b,Z6c,Z6d,Z6e,Z6f,Z6g,Z6h,Z6i,Z6j,Z6k,Z6l,Z6m,Z6n,Z6o,Z6p,Z6q,Z6r,Z6s,Z6t,Z6u,Z6v,Z6w,Z6x,Z6y,Z6z], dl⟩ wo) :
    cd.wp Tryz.prog Q ⟨#[Z0,Z1,Z2,Z3,Z4,Z5,Z6,Z7,Z8,Z9,Za,.pointer (some ⟨rb, 0, none⟩),Zc,Zd,Ze,.pointer (some ⟨br, 0, none⟩),Zg,.int .i64 k,Zi,Zj,Zk,Zl,Zm,Zn,Zo,Zp,Zq,Zr,Zs,Zt,Zu,Zv,Zw,Zx,Zy,Zz,Z10,Z11,Z12,Z13,Z14,Z15,Z16,Z17,Z18,Z19,Z1a,Z1b,Z1c,Z1d,Z1e,Z1f,Z1g,Z1h,Z1i,Z1j,Z1k,Z1l,Z1m,Z1n,Z1o,Z1p,Z1q,Z1r,Z1s,Z1t,Z1u,Z1v,Z1w,Z1x,Z1y,Z1z,Z20,Z21,Z22,Z23,Z24,Z25,Z26,Z27,Z28,Z29,Z2a,Z2b,Z2c,Z2d,Z2e,Z2f,Z2g,Z2h,Z2i,Z2j,Z2k,Z2l,Z2m,Z2n,Z2o,Z2p,Z2q,Z2r,Z2s,Z2t,Z2u,Z2v,Z2w,Z2x,Z2y,Z2z,Z30,Z31,Z32,Z33,Z34,Z35,Z36,Z37,Z38,Z39,Z3a,Z3b,Z3c,Z3d,Z3e,Z3f,Z3g,Z3h,Z3i,Z3j,Z3k,Z3l,Z3m,Z3n,Z3o,Z3p,Z3q,Z3r,Z3s,Z3t,Z3u,Z3v,Z3w,Z3x,Z3y,Z3z,Z40,Z41,Z42,Z43,Z44,Z45,Z46,Z47,Z48,Z49,Z4a,Z4b,Z4c,Z4d,Z4e,Z4f,Z4g,Z4h,Z4i,Z4j,Z4k,Z4l,Z4m,Z4n,Z4o,Z4p,Z4q,Z4r,Z4s,Z4t,Z4u,Z4v,Z4w,Z4x,Z4y,Z4z,Z50,Z51,Z52,Z53,Z54,Z55,Z56,Z57,Z58,Z59,Z5a,Z5b,Z5c,Z5d,Z5e,Z5f,Z5g,Z5h,Z5i,Z5j,Z5k,Z5l,Z5m,Z5n,Z5o,Z5p,Z5q,Z5r,Z5s,Z5t,Z5u,Z5v,Z5w,Z5x,Z5y,Z5z,Z60,Z61,Z62,Z63,Z64,Z65,Z66,Z67,Z68,Z69,Z6a,Z6b,Z6c,Z6d,Z6e,Z6f,Z6g,Z6h,Z6i,Z6j,Z6k,Z6l,Z6m,Z6n,Z6o,Z6p,Z6q,Z6r,Z6s,Z6t,Z6u,Z6v,Z6w,Z6x,Z6y,Z6z], dl⟩ X := by
  rw [show (Tryz.f9.body.bind (regionOf 24)) = some (Code.region 24 _ true) from rfl] at hcd
  obtain rfl := Option.some.inj hcd
  clear hcd
  dsimp only at hQ ⊢
  obtain ⟨i0, hi0, hz0, hz1, hz2⟩ := info_parts loadInfo
  have Hi := Lib.hid hi0; have Hz0 := Lib.hid hz0; have Hz1 := Lib.hid hz1; have Hz2 := Lib.hid hz2
  clear hi0 hz0 hz1 hz2
  obtain ⟨p0, p1, p2⟩ := rr.box.c3
  obtain ⟨y0, y1, y2⟩ := rc.box.c3
  have f1 := rc.box.frozen 1
  have la0 := rr.box.lt
  have lr0 := rc.box.lt
  have z0 : (0 : Int) ≤ (k : Int) := by omega
  have g1 : (k : Int) < (ls.length : Int) := by omega
  obtain ⟨la, hla, laB, ex0, hq⟩ := (rr.r.l).sp (by decide) hlt
  have ex1 := hq 1 (by decide) (by decide)
  have ex2 := hq 2 (by decide) (by decide)
  have ex3 := hq 3 (by decide) (by decide)
  have ex4 := hq 4 (by decide) (by decide)
  clear hq rr
  obtain ⟨x, hx⟩ : ∃ x, ls[k] = x := ⟨_, rfl⟩
  rw [hx] at ex0 ex1 ex2 ex3 ex4 hQ
  clear hx
  replace ex0 : X.cell? (la.add (k * 5)) = some (.int .i64 x.a) := ex0
  replace ex1 : X.cell? (⟨(la.add (k * 5)).block, (la.add (k * 5)).off + 1, none⟩) = some (.int .i64 x.b) := ex1
  replace ex2 : X.cell? (⟨(la.add (k * 5)).block, (la.add (k * 5)).off + 2, none⟩) = some (.int .i64 x.c) := ex2
  replace ex3 : X.cell? (⟨(la.add (k * 5)).block, (la.add (k * 5)).off + 3, none⟩) = some (.int .i64 x.d) := ex3
  replace ex4 : X.cell? (⟨(la.add (k * 5)).block, (la.add (k * 5)).off + 4, none⟩) = some (.int .i64 x.e) := ex4
  subst hla
  have rcd := rc.below (Below.refl X.heap.size X).drew
  have hBd := hB.drew
  have hs3 : br + 1 ≤ X.drew.heap.size := hs
  refine wp_region_noPanic ?_
  go_region_law ((refine step_pushH (w := X.drew) (w0 := W0) (cell := p5cell) (y := x) rfl _ _ _ rfl (br + 1) br 68 i0 _ 40 Tryz.underlying27 Hi.out Hz0.out Hz1.out Hz2.out rfl (by decide) v2 o2.length o2 (by simp [Act.eval]) rcd.l _ _ rfl _ (by simp [Act.eval]; rfl) (p5_one _) (by unfold maxLen; omega) (by omega) hs3 (by omega) hBd ?_; intro v' w' hown' hb' hg'; have b1 := rcd.box.grown hg' (rcd.box.ne_own (by decide) rcd.l); obtain ⟨y0, y1, y2⟩ := b1.c3; have f1 := b1.frozen 1; obtain ⟨g', cap', rfl⟩ := ownsRow_succ hown'))
  all_goals refine NoPanic.normal (hQ _ _ _ _ _ _ _ _ _ _ _ _ (rcd.addL (qs := [x]) (Nat.lt_succ_self _) hown' (by rw [List.length_append]; rfl) hg') (hb'.setCell (p := ⟨br, 1, none⟩) (Nat.le_refl _) _) (by rw [World.size_setCell]; exact Nat.le_trans hs3 hg'.size))
set_option maxHeartbeats 32000000 in
theorem hol_p2 {Q : Exit → Act → World → Prop} {cd : Code} {dl : List Deferred} {Z0 Z1 Z2 Z3 Z4 Z5 Z6 Z7 Z8 Z9 Za Zc Zd Ze Zg Zh Zj Zk Zl Zm Zn Zo Zp Zq Zr Zs Zt Zu Zv Zw Zx Zy Zz Z10 Z11 Z12 Z13 Z14 Z15 Z16 Z17 Z18 Z19 Z1a Z1b Z1c Z1d Z1e Z1f Z1g Z1h Z1i Z1j Z1k Z1l Z1m Z1n Z1o Z1p Z1q Z1r Z1s Z1t Z1u Z1v Z1w Z1x Z1y Z1z Z20 Z21 Z22 Z23 Z24 Z25 Z26 Z27 Z28 Z29 Z2a Z2b Z2c Z2d Z2e Z2f Z2g Z2h Z2i Z2j Z2k Z2l Z2m Z2n Z2o Z2p Z2q Z2r Z2s Z2t Z2u Z2v Z2w Z2x Z2y Z2z Z30 Z31 Z32 Z33 Z34 Z35 Z36 Z37 Z38 Z39 Z3a Z3b Z3c Z3d Z3e Z3f Z3g Z3h Z3i Z3j Z3k Z3l Z3m Z3n Z3o Z3p Z3q Z3r Z3s Z3t Z3u Z3v Z3w Z3x Z3y Z3z Z40 Z41 Z42 Z43 Z44 Z45 Z46 Z47 Z48 Z49 Z4a Z4b Z4c Z4d Z4e Z4f Z4g Z4h Z4i Z4j Z4k Z4l Z4m Z4n Z4o Z4p Z4q Z4r Z4s Z4t Z4u Z4v Z4w Z4x Z4y Z4z Z50 Z51 Z52 Z53 Z54 Z55 Z56 Z57 Z58 Z59 Z5a Z5b Z5c Z5d Z5e Z5f Z5g Z5h Z5i Z5j Z5k Z5l Z5m Z5n Z5o Z5p Z5q Z5r Z5s Z5t Z5u Z5v Z5w Z5x Z5y Z5z Z60 Z61 Z62 Z63 Z64 Z65 Z66 Z67 Z68 Z69 Z6a Z6b Z6c Z6d Z6e Z6f Z6g Z6h Z6i Z6j Z6k Z6l Z6m Z6n Z6o Z6p Z6q Z6r Z6s Z6t Z6u Z6v Z6w Z6x Z6y Z6z : Value} (XA YA ZA : Option Addr) (xc yc zc : Nat) (ps ls : List P5) (cs : List P4) (X : World) (rb br k : Nat) (rr : R6 X rb XA YA ZA xc yc zc ps ls cs) (W0 : World) (v1 v2 v3 : Value) (o1 o2 : List P5) (o3 : List P4) (rc : RC X (br + 1) br o1 o2 o3 v1 v2 v3) (hB : Below br W0 X) (hs : br + 1 ≤ X.heap.size) (hlt : k < cs.length) (hol : o3.length ≤ 15000) (hcd : (Tryz.f9.body.bind (regionOf 39)) = some cd)
    (hQ : ∀ (y236 y237 y238 y239 y240 y241 y242 y243 y244 y245 : Value) (wo : World) (v' : Value), RC wo (br + 1) br o1 o2 (o3 ++ [cs[k]]) v1 v2 v' → Below br W0 wo → br + 1 ≤ wo.heap.size → Q .normal ⟨#[Z0,Z1,Z2,Z3,Z4,Z5,Z6,Z7,Z8,Z9,Za,.pointer (some ⟨rb, 0, none⟩),Zc,Zd,Ze,.pointer (some ⟨br, 0, none⟩),Zg,Zh,.int .i64 k,Zj,Zk,Zl,Zm,Zn,Zo,Zp,Zq,Zr,Zs,Zt,Zu,Zv,Zw,Zx,Zy,Zz,Z10,Z11,Z12,Z13,Z14,Z15,Z16,Z17,Z18,Z19,Z1a,Z1b,Z1c,Z1d,Z1e,Z1f,Z1g,Z1h,Z1i,Z1j,Z1k,Z1l,Z1m,Z1n,Z1o,Z1p,Z1q,Z1r,Z1s,Z1t,Z1u,Z1v,Z1w,Z1x,Z1y,Z1z,Z20,Z21,Z22,Z23,Z24,Z25,Z26,Z27,Z28,Z29,Z2a,Z2b,Z2c,Z2d,Z2e,Z2f,Z2g,Z2h,Z2i,Z2j,Z2k,Z2l,Z2m,Z2n,Z2o,Z2p,Z2q,Z2r,Z2s,Z2t,Z2u,Z2v,Z2w,Z2x,Z2y,Z2z,Z30,Z31,Z32,Z33,Z34,Z35,Z36,Z37,Z38,Z39,Z3a,Z3b,Z3c,Z3d,Z3e,Z3f,Z3g,Z3h,Z3i,Z3j,Z3k,Z3l,Z3m,Z3n,Z3o,Z3p,Z3q,Z3r,Z3s,Z3t,Z3u,Z3v,Z3w,Z3x,Z3y,Z3z,Z40,Z41,Z42,Z43,Z44,Z45,Z46,Z47,Z48,Z49,Z4a,Z4b,Z4c,Z4d,Z4e,Z4f,Z4g,Z4h,Z4i,Z4j,Z4k,Z4l,Z4m,Z4n,Z4o,Z4p,Z4q,Z4r,Z4s,Z4t,Z4u,Z4v,Z4w,Z4x,Z4y,Z4z,Z50,Z51,Z52,Z53,Z54,Z55,Z56,Z57,Z58,Z59,Z5a,Z5b,Z5c,Z5d,Z5e,Z5f,Z5g,Z5h,Z5i,Z5j,Z5k,Z5l,Z5m,Z5n,Z5o,Z5p,Z5q,Z5r,Z5s,Z5t,Z5u,Z5v,Z5w,Z5x,Z5y,Z5z,Z60,Z61,Z62,Z63,Z64,Z65,Z66,Z67,Z68,Z69,Z6a,Z6b,Z6c,Z6d,Z6e,Z6f,Z6g,Z6h,Z6i,Z6j,y236,y237,y238,y239,y240,y241,y242,y243,y244,y245,Z6u,Z6v,Z6w,Z6x,Z6y,Z6z], dl⟩ wo) :
    cd.wp Tryz.prog Q ⟨#[Z0,Z1,Z2,Z3,Z4,Z5,Z6,Z7,Z8,Z9,Za,.pointer (some ⟨rb, 0, none⟩),Zc,Zd,Ze,.pointer (some ⟨br, 0, none⟩),Zg,Zh,.int .i64 k,Zj,Zk,Zl,Zm,Zn,Zo,Zp,Zq,Zr,Zs,Zt,Zu,Zv,Zw,Zx,Zy,Zz,Z10,Z11,Z12,Z13,Z14,Z15,Z16,Z17,Z18,Z19,Z1a,Z1b,Z1c,Z1d,Z1e,Z1f,Z1g,Z1h,Z1i,Z1j,Z1k,Z1l,Z1m,Z1n,Z1o,Z1p,Z1q,Z1r,Z1s,Z1t,Z1u,Z1v,Z1w,Z1x,Z1y,Z1z,Z20,Z21,Z22,Z23,Z24,Z25,Z26,Z27,Z28,Z29,Z2a,Z2b,Z2c,Z2d,Z2e,Z2f,Z2g,Z2h,Z2i,Z2j,Z2k,Z2l,Z2m,Z2n,Z2o,Z2p,Z2q,Z2r,Z2s,Z2t,Z2u,Z2v,Z2w,Z2x,Z2y,Z2z,Z30,Z31,Z32,Z33,Z34,Z35,Z36,Z37,Z38,Z39,Z3a,Z3b,Z3c,Z3d,Z3e,Z3f,Z3g,Z3h,Z3i,Z3j,Z3k,Z3l,Z3m,Z3n,Z3o,Z3p,Z3q,Z3r,Z3s,Z3t,Z3u,Z3v,Z3w,Z3x,Z3y,Z3z,Z40,Z41,Z42,Z43,Z44,Z45,Z46,Z47,Z48,Z49,Z4a,Z4b,Z4c,Z4d,Z4e,Z4f,Z4g,Z4h,Z4i,Z4j,Z4k,Z4l,Z4m,Z4n,Z4o,Z4p,Z4q,Z4r,Z4s,Z4t,Z4u,Z4v,Z4w,Z4x,Z4y,Z4z,Z50,Z51,Z52,Z53,Z54,Z55,Z56,Z57,Z58,Z59,Z5a,Z5b,Z5c,Z5d,Z5e,Z5f,Z5g,Z5h,Z5i,Z5j,Z5k,Z5l,Z5m,Z5n,Z5o,Z5p,Z5q,Z5r,Z5s,Z5t,Z5u,Z5v,Z5w,Z5x,Z5y,Z5z,Z60,Z61,Z62,Z63,Z64,Z65,Z66,Z67,Z68,Z69,Z6a,Z6b,Z6c,Z6d,Z6e,Z6f,Z6g,Z6h,Z6i,Z6j,Z6k,Z6l,Z6m,Z6n,Z6o,Z6p,Z6q,Z6r,Z6s,Z6t,Z6u,Z6v,Z6w,Z6x,Z6y,Z6z], dl⟩ X := by
  rw [show (Tryz.f9.body.bind (regionOf 39)) = some (Code.region 39 _ true) from rfl] at hcd
  obtain rfl := Option.some.inj hcd
  clear hcd
  dsimp only at hQ ⊢
  obtain ⟨i0, hi0, hz0, hz1, hz2⟩ := info_parts capInfo
  have Hi := Lib.hid hi0; have Hz0 := Lib.hid hz0; have Hz1 := Lib.hid hz1; have Hz2 := Lib.hid hz2
  clear hi0 hz0 hz1 hz2
  obtain ⟨p0, p1, p2⟩ := rr.box.c3
  obtain ⟨y0, y1, y2⟩ := rc.box.c3
  have f2 := rc.box.frozen 2
  have la0 := rr.box.lt
  have lr0 := rc.box.lt
  have z0 : (0 : Int) ≤ (k : Int) := by omega
  have g1 : (k : Int) < (cs.length : Int) := by omega
  obtain ⟨la, hla, laB, ex0, hq⟩ := (rr.r.c).sp (by decide) hlt
  have ex1 := hq 1 (by decide) (by decide)
  have ex2 := hq 2 (by decide) (by decide)
  have ex3 := hq 3 (by decide) (by decide)
  clear hq rr
  obtain ⟨x, hx⟩ : ∃ x, cs[k] = x := ⟨_, rfl⟩
  rw [hx] at ex0 ex1 ex2 ex3 hQ
  clear hx
  replace ex0 : X.cell? (la.add (k * 4)) = some (.int .i64 x.a) := ex0
  replace ex1 : X.cell? (⟨(la.add (k * 4)).block, (la.add (k * 4)).off + 1, none⟩) = some (.int .i64 x.b) := ex1
  replace ex2 : X.cell? (⟨(la.add (k * 4)).block, (la.add (k * 4)).off + 2, none⟩) = some (.int .i64 x.c) := ex2
  replace ex3 : X.cell? (⟨(la.add (k * 4)).block, (la.add (k * 4)).off + 3, none⟩) = some (.int .i64 x.d) := ex3
  subst hla
  have rcd := rc.below (Below.refl X.heap.size X).drew
  have hBd := hB.drew
  have hs3 : br + 1 ≤ X.drew.heap.size := hs
  refine wp_region_noPanic ?_
  go_region_law ((refine step_pushH (w := X.drew) (w0 := W0) (cell := p4cell) (y := x) rfl _ _ _ rfl (br + 1) br 71 i0 _ 32 Tryz.underlying28 Hi.out Hz0.out Hz1.out Hz2.out rfl (by decide) v3 o3.length o3 (by simp [Act.eval]) rcd.c _ _ rfl _ (by simp [Act.eval]; rfl) (p4_one _) (by unfold maxLen; omega) (by omega) hs3 (by omega) hBd ?_; intro v' w' hown' hb' hg'; have b1 := rcd.box.grown hg' (rcd.box.ne_own (by decide) rcd.c); obtain ⟨y0, y1, y2⟩ := b1.c3; have f2 := b1.frozen 2; obtain ⟨g', cap', rfl⟩ := ownsRow_succ hown'))
  all_goals refine NoPanic.normal (hQ _ _ _ _ _ _ _ _ _ _ _ _ (rcd.addC (qs := [x]) (Nat.lt_succ_self _) hown' (by rw [List.length_append]; rfl) hg') (hb'.setCell (p := ⟨br, 2, none⟩) (Nat.le_refl _) _) (by rw [World.size_setCell]; exact Nat.le_trans hs3 hg'.size))
set_option maxHeartbeats 32000000 in
theorem hol_no {Q : Exit → Act → World → Prop} {cd : Code} {dl : List Deferred} {Z0 Z1 Z2 Z3 Z4 Z5 Z6 Z7 Z8 Z9 Za Zc Zd Ze Zf Zg Zh Zj Zl Zm Zn Zo Zp Zq Zr Zs Zt Zu Zv Zw Zx Zy Zz Z10 Z11 Z12 Z13 Z14 Z15 Z16 Z17 Z18 Z19 Z1a Z1b Z1c Z1d Z1e Z1f Z1g Z1h Z1i Z1j Z1k Z1l Z1m Z1n Z1o Z1p Z1q Z1r Z1s Z1t Z1u Z1v Z1w Z1x Z1y Z1z Z20 Z21 Z22 Z23 Z24 Z25 Z26 Z27 Z28 Z29 Z2a Z2b Z2c Z2d Z2e Z2f Z2g Z2h Z2i Z2j Z2k Z2l Z2m Z2n Z2o Z2p Z2q Z2r Z2s Z2t Z2u Z2v Z2w Z2x Z2y Z2z Z30 Z31 Z32 Z33 Z34 Z35 Z36 Z37 Z38 Z39 Z3a Z3b Z3c Z3d Z3e Z3f Z3g Z3h Z3i Z3j Z3k Z3l Z3m Z3n Z3o Z3p Z3q Z3r Z3s Z3t Z3u Z3v Z3w Z3x Z3y Z3z Z40 Z41 Z42 Z43 Z44 Z45 Z46 Z47 Z48 Z49 Z4a Z4b Z4c Z4d Z4e Z4f Z4g Z4h Z4i Z4j Z4k Z4l Z4m Z4n Z4o Z4p Z4q Z4r Z4s Z4t Z4u Z4v Z4w Z4x Z4y Z4z Z50 Z51 Z52 Z53 Z54 Z55 Z56 Z57 Z58 Z59 Z5a Z5b Z5c Z5d Z5e Z5f Z5g Z5h Z5i Z5j Z5k Z5l Z5m Z5n Z5o Z5p Z5q Z5r Z5s Z5t Z5u Z5v Z5w Z5x Z5y Z5z Z60 Z61 Z62 Z63 Z64 Z65 Z66 Z67 Z68 Z69 Z6a Z6b Z6c Z6d Z6e Z6f Z6g Z6h Z6i Z6j Z6k Z6l Z6m Z6n Z6o Z6p Z6q Z6r Z6s Z6t Z6u Z6v Z6w Z6x Z6y Z6z : Value} (XA YA ZA : Option Addr) (xc yc zc : Nat) (ps ls : List P5) (cs : List P4) (X : World) (rb i k : Nat) (rr : R6 X rb XA YA ZA xc yc zc ps ls cs) (hk : k < ls.length) (hi : i < cs.length) (hno : ls[k].a = cs[i].a → 2 * ls[k].c ≤ cs[i].b) (hbd : 0 ≤ ls[k].c ∧ ls[k].c ≤ 2000000000) (hcd : (Tryz.f9.body.bind (regionOf 32)) = some cd)
    (hQ : ∀ (y183 y184 y185 y186 y187 y188 y189 y190 y191 y192 y193 y194 y195 y196 y197 y198 y199 y200 y201 y202 y203 y204 y205 y206 y207 y208 y209 y210 : Value) (wo : World) , Below X.heap.size X wo → Q .normal ⟨#[Z0,Z1,Z2,Z3,Z4,Z5,Z6,Z7,Z8,Z9,Za,.pointer (some ⟨rb, 0, none⟩),Zc,Zd,Ze,Zf,Zg,Zh,.int .i64 i,Zj,.int .i64 k,Zl,Zm,Zn,Zo,Zp,Zq,Zr,Zs,Zt,Zu,Zv,Zw,Zx,Zy,Zz,Z10,Z11,Z12,Z13,Z14,Z15,Z16,Z17,Z18,Z19,Z1a,Z1b,Z1c,Z1d,Z1e,Z1f,Z1g,Z1h,Z1i,Z1j,Z1k,Z1l,Z1m,Z1n,Z1o,Z1p,Z1q,Z1r,Z1s,Z1t,Z1u,Z1v,Z1w,Z1x,Z1y,Z1z,Z20,Z21,Z22,Z23,Z24,Z25,Z26,Z27,Z28,Z29,Z2a,Z2b,Z2c,Z2d,Z2e,Z2f,Z2g,Z2h,Z2i,Z2j,Z2k,Z2l,Z2m,Z2n,Z2o,Z2p,Z2q,Z2r,Z2s,Z2t,Z2u,Z2v,Z2w,Z2x,Z2y,Z2z,Z30,Z31,Z32,Z33,Z34,Z35,Z36,Z37,Z38,Z39,Z3a,Z3b,Z3c,Z3d,Z3e,Z3f,Z3g,Z3h,Z3i,Z3j,Z3k,Z3l,Z3m,Z3n,Z3o,Z3p,Z3q,Z3r,Z3s,Z3t,Z3u,Z3v,Z3w,Z3x,Z3y,Z3z,Z40,Z41,Z42,Z43,Z44,Z45,Z46,Z47,Z48,Z49,Z4a,Z4b,Z4c,Z4d,Z4e,Z4f,Z4g,Z4h,Z4i,Z4j,Z4k,Z4l,Z4m,Z4n,Z4o,Z4p,Z4q,Z4r,Z4s,Z4t,Z4u,Z4v,Z4w,Z4x,Z4y,Z4z,Z50,Z51,Z52,y183,y184,y185,y186,y187,y188,y189,y190,y191,y192,y193,y194,y195,y196,y197,y198,y199,y200,y201,y202,y203,y204,y205,y206,y207,y208,y209,y210,.bool false,Z5w,Z5x,Z5y,Z5z,Z60,Z61,Z62,Z63,Z64,Z65,Z66,Z67,Z68,Z69,Z6a,Z6b,Z6c,Z6d,Z6e,Z6f,Z6g,Z6h,Z6i,Z6j,Z6k,Z6l,Z6m,Z6n,Z6o,Z6p,Z6q,Z6r,Z6s,Z6t,Z6u,Z6v,Z6w,Z6x,Z6y,Z6z], dl⟩ wo) :
    cd.wp Tryz.prog Q ⟨#[Z0,Z1,Z2,Z3,Z4,Z5,Z6,Z7,Z8,Z9,Za,.pointer (some ⟨rb, 0, none⟩),Zc,Zd,Ze,Zf,Zg,Zh,.int .i64 i,Zj,.int .i64 k,Zl,Zm,Zn,Zo,Zp,Zq,Zr,Zs,Zt,Zu,Zv,Zw,Zx,Zy,Zz,Z10,Z11,Z12,Z13,Z14,Z15,Z16,Z17,Z18,Z19,Z1a,Z1b,Z1c,Z1d,Z1e,Z1f,Z1g,Z1h,Z1i,Z1j,Z1k,Z1l,Z1m,Z1n,Z1o,Z1p,Z1q,Z1r,Z1s,Z1t,Z1u,Z1v,Z1w,Z1x,Z1y,Z1z,Z20,Z21,Z22,Z23,Z24,Z25,Z26,Z27,Z28,Z29,Z2a,Z2b,Z2c,Z2d,Z2e,Z2f,Z2g,Z2h,Z2i,Z2j,Z2k,Z2l,Z2m,Z2n,Z2o,Z2p,Z2q,Z2r,Z2s,Z2t,Z2u,Z2v,Z2w,Z2x,Z2y,Z2z,Z30,Z31,Z32,Z33,Z34,Z35,Z36,Z37,Z38,Z39,Z3a,Z3b,Z3c,Z3d,Z3e,Z3f,Z3g,Z3h,Z3i,Z3j,Z3k,Z3l,Z3m,Z3n,Z3o,Z3p,Z3q,Z3r,Z3s,Z3t,Z3u,Z3v,Z3w,Z3x,Z3y,Z3z,Z40,Z41,Z42,Z43,Z44,Z45,Z46,Z47,Z48,Z49,Z4a,Z4b,Z4c,Z4d,Z4e,Z4f,Z4g,Z4h,Z4i,Z4j,Z4k,Z4l,Z4m,Z4n,Z4o,Z4p,Z4q,Z4r,Z4s,Z4t,Z4u,Z4v,Z4w,Z4x,Z4y,Z4z,Z50,Z51,Z52,Z53,Z54,Z55,Z56,Z57,Z58,Z59,Z5a,Z5b,Z5c,Z5d,Z5e,Z5f,Z5g,Z5h,Z5i,Z5j,Z5k,Z5l,Z5m,Z5n,Z5o,Z5p,Z5q,Z5r,Z5s,Z5t,Z5u,Z5v,Z5w,Z5x,Z5y,Z5z,Z60,Z61,Z62,Z63,Z64,Z65,Z66,Z67,Z68,Z69,Z6a,Z6b,Z6c,Z6d,Z6e,Z6f,Z6g,Z6h,Z6i,Z6j,Z6k,Z6l,Z6m,Z6n,Z6o,Z6p,Z6q,Z6r,Z6s,Z6t,Z6u,Z6v,Z6w,Z6x,Z6y,Z6z], dl⟩ X := by
  rw [show (Tryz.f9.body.bind (regionOf 32)) = some (Code.region 32 _ true) from rfl] at hcd
  obtain rfl := Option.some.inj hcd
  clear hcd
  dsimp only at hQ ⊢
  obtain ⟨p0, p1, p2⟩ := rr.box.c3
  have la0 := rr.box.lt
  have z0 : (0 : Int) ≤ (k : Int) := by omega
  have g1 : (k : Int) < (ls.length : Int) := by omega
  have z1 : (0 : Int) ≤ (i : Int) := by omega
  have g2 : (i : Int) < (cs.length : Int) := by omega
  obtain ⟨la, hla, laB, ex0, hq⟩ := (rr.r.l).sp (by decide) hk
  have ex2 := hq 2 (by decide) (by decide)
  clear hq
  obtain ⟨lb, hlb, lbB, ey0, hq⟩ := (rr.r.c).sp (by decide) hi
  have ey1 := hq 1 (by decide) (by decide)
  clear hq
  clear rr
  obtain ⟨x, hx⟩ : ∃ x, ls[k] = x := ⟨_, rfl⟩
  rw [hx] at ex0 ex2 hno hbd
  clear hx
  obtain ⟨y, hy⟩ : ∃ y, cs[i] = y := ⟨_, rfl⟩
  rw [hy] at ey0 ey1 hno
  clear hy
  replace ex0 : X.cell? (la.add (k * 5)) = some (.int .i64 x.a) := ex0
  replace ex2 : X.cell? (⟨(la.add (k * 5)).block, (la.add (k * 5)).off + 2, none⟩) = some (.int .i64 x.c) := ex2
  replace ey0 : X.cell? (lb.add (i * 4)) = some (.int .i64 y.a) := ey0
  replace ey1 : X.cell? (⟨(lb.add (i * 4)).block, (lb.add (i * 4)).off + 1, none⟩) = some (.int .i64 y.b) := ey1
  subst hla
  subst hlb
  by_cases e : x.a = y.a
  case neg =>
    have q1 : (x.a == y.a) = false := by simpa using e
    clear e hno hbd
    refine wp_region_kept X.heap.size X (by kernel_rfl) (by kernel_rfl) (Below.refl _ _) ?_
    repeat (go_big_quiet_step (fail))
    refine wpQuiet_nil ?_
    rintro w5 ⟨⟨w5x, hb5⟩, hw5⟩
    dsimp only at hw5
    subst hw5
    exact hQ _ _ _ _ _ _ _ _ _ _ _ _ _ _ _ _ _ _ _ _ _ _ _ _ _ _ _ _ _ hb5
  have q1 : (x.a == y.a) = true := by simpa using e
  have hle := hno e
  have q2 : decide (y.b < 2 * x.c) = false := decide_eq_false (by omega)
  obtain ⟨hbd1, hbd2⟩ := hbd
  clear e hno hle
  refine wp_region_kept X.heap.size X (by kernel_rfl) (by kernel_rfl) (Below.refl _ _) ?_
  repeat (go_big_quiet_step (fail))
  refine wpQuiet_nil ?_
  rintro w5 ⟨⟨w5x, hb5⟩, hw5⟩
  dsimp only at hw5
  subst hw5
  exact hQ _ _ _ _ _ _ _ _ _ _ _ _ _ _ _ _ _ _ _ _ _ _ _ _ _ _ _ _ _ hb5
set_option maxHeartbeats 32000000 in
theorem hol_ld {Q : Exit → Act → World → Prop} {cd : Code} {dl : List Deferred} {Z0 Z1 Z2 Z3 Z4 Z5 Z6 Z7 Z8 Z9 Za Zc Zd Ze Zg Zh Zk Zm Zn Zo Zp Zq Zr Zs Zt Zu Zv Zw Zx Zy Zz Z10 Z11 Z12 Z13 Z14 Z15 Z16 Z17 Z18 Z19 Z1a Z1b Z1c Z1d Z1e Z1f Z1g Z1h Z1i Z1j Z1k Z1l Z1m Z1n Z1o Z1p Z1q Z1r Z1s Z1t Z1u Z1v Z1w Z1x Z1y Z1z Z20 Z21 Z22 Z23 Z24 Z25 Z26 Z27 Z28 Z29 Z2a Z2b Z2c Z2d Z2e Z2f Z2g Z2h Z2i Z2j Z2k Z2l Z2m Z2n Z2o Z2p Z2q Z2r Z2s Z2t Z2u Z2v Z2w Z2x Z2y Z2z Z30 Z31 Z32 Z33 Z34 Z35 Z36 Z37 Z38 Z39 Z3a Z3b Z3c Z3d Z3e Z3f Z3g Z3h Z3i Z3j Z3k Z3l Z3m Z3n Z3o Z3p Z3q Z3r Z3s Z3t Z3u Z3v Z3w Z3x Z3y Z3z Z40 Z41 Z42 Z43 Z44 Z45 Z46 Z47 Z48 Z49 Z4a Z4b Z4c Z4d Z4e Z4f Z4g Z4h Z4i Z4j Z4k Z4l Z4m Z4n Z4o Z4p Z4q Z4r Z4s Z4t Z4u Z4v Z4w Z4x Z4y Z4z Z50 Z51 Z52 Z53 Z54 Z55 Z56 Z57 Z58 Z59 Z5a Z5b Z5c Z5d Z5e Z5f Z5g Z5h Z5i Z5j Z5k Z5l Z5m Z5n Z5o Z5p Z5q Z5r Z5s Z5t Z5u Z5v Z5w Z5x Z5y Z5z Z60 Z61 Z62 Z63 Z64 Z65 Z66 Z67 Z68 Z69 Z6a Z6b Z6c Z6d Z6e Z6f Z6g Z6h Z6i Z6j Z6k Z6l Z6m Z6n Z6o Z6p Z6q Z6r Z6s Z6t Z6u Z6v Z6w Z6x Z6y Z6z : Value} (XA YA ZA : Option Addr) (xc yc zc : Nat) (ps ls : List P5) (cs : List P4) (X : World) (rb br i k : Nat) (rr : R6 X rb XA YA ZA xc yc zc ps ls cs) (b : Bool) (o2 : List P5) (A2 : Option Addr) (c2 : Nat) (u v : Value) (hx : Box X br #[u, .slice A2 o2.length c2, v] 30) (hS : Sl 5 p5cell X X.heap.size A2 o2) (hk : k < o2.length) (hi : i < cs.length) (hcd : (Tryz.f9.body.bind (regionOf 37)) = some cd)
    (hQ : ∀ (y219 y220 y221 y222 y223 y224 y225 y226 y227 y228 y229 y230 y231 y232 y233 : Value) (wo : World) (r : Bool), r = (b || decide (o2[k].a = cs[i].a)) → Below X.heap.size X wo → Q .normal ⟨#[Z0,Z1,Z2,Z3,Z4,Z5,Z6,Z7,Z8,Z9,Za,.pointer (some ⟨rb, 0, none⟩),Zc,Zd,Ze,.pointer (some ⟨br, 0, none⟩),Zg,Zh,.int .i64 i,.bool r,Zk,.int .i64 k,Zm,Zn,Zo,Zp,Zq,Zr,Zs,Zt,Zu,Zv,Zw,Zx,Zy,Zz,Z10,Z11,Z12,Z13,Z14,Z15,Z16,Z17,Z18,Z19,Z1a,Z1b,Z1c,Z1d,Z1e,Z1f,Z1g,Z1h,Z1i,Z1j,Z1k,Z1l,Z1m,Z1n,Z1o,Z1p,Z1q,Z1r,Z1s,Z1t,Z1u,Z1v,Z1w,Z1x,Z1y,Z1z,Z20,Z21,Z22,Z23,Z24,Z25,Z26,Z27,Z28,Z29,Z2a,Z2b,Z2c,Z2d,Z2e,Z2f,Z2g,Z2h,Z2i,Z2j,Z2k,Z2l,Z2m,Z2n,Z2o,Z2p,Z2q,Z2r,Z2s,Z2t,Z2u,Z2v,Z2w,Z2x,Z2y,Z2z,Z30,Z31,Z32,Z33,Z34,Z35,Z36,Z37,Z38,Z39,Z3a,Z3b,Z3c,Z3d,Z3e,Z3f,Z3g,Z3h,Z3i,Z3j,Z3k,Z3l,Z3m,Z3n,Z3o,Z3p,Z3q,Z3r,Z3s,Z3t,Z3u,Z3v,Z3w,Z3x,Z3y,Z3z,Z40,Z41,Z42,Z43,Z44,Z45,Z46,Z47,Z48,Z49,Z4a,Z4b,Z4c,Z4d,Z4e,Z4f,Z4g,Z4h,Z4i,Z4j,Z4k,Z4l,Z4m,Z4n,Z4o,Z4p,Z4q,Z4r,Z4s,Z4t,Z4u,Z4v,Z4w,Z4x,Z4y,Z4z,Z50,Z51,Z52,Z53,Z54,Z55,Z56,Z57,Z58,Z59,Z5a,Z5b,Z5c,Z5d,Z5e,Z5f,Z5g,Z5h,Z5i,Z5j,Z5k,Z5l,Z5m,Z5n,Z5o,Z5p,Z5q,Z5r,Z5s,Z5t,Z5u,Z5v,Z5w,Z5x,Z5y,Z5z,Z60,Z61,Z62,y219,y220,y221,y222,y223,y224,y225,y226,y227,y228,y229,y230,y231,y232,y233,.bool r,Z6j,Z6k,Z6l,Z6m,Z6n,Z6o,Z6p,Z6q,Z6r,Z6s,Z6t,Z6u,Z6v,Z6w,Z6x,Z6y,Z6z], dl⟩ wo) :
    cd.wp Tryz.prog Q ⟨#[Z0,Z1,Z2,Z3,Z4,Z5,Z6,Z7,Z8,Z9,Za,.pointer (some ⟨rb, 0, none⟩),Zc,Zd,Ze,.pointer (some ⟨br, 0, none⟩),Zg,Zh,.int .i64 i,.bool b,Zk,.int .i64 k,Zm,Zn,Zo,Zp,Zq,Zr,Zs,Zt,Zu,Zv,Zw,Zx,Zy,Zz,Z10,Z11,Z12,Z13,Z14,Z15,Z16,Z17,Z18,Z19,Z1a,Z1b,Z1c,Z1d,Z1e,Z1f,Z1g,Z1h,Z1i,Z1j,Z1k,Z1l,Z1m,Z1n,Z1o,Z1p,Z1q,Z1r,Z1s,Z1t,Z1u,Z1v,Z1w,Z1x,Z1y,Z1z,Z20,Z21,Z22,Z23,Z24,Z25,Z26,Z27,Z28,Z29,Z2a,Z2b,Z2c,Z2d,Z2e,Z2f,Z2g,Z2h,Z2i,Z2j,Z2k,Z2l,Z2m,Z2n,Z2o,Z2p,Z2q,Z2r,Z2s,Z2t,Z2u,Z2v,Z2w,Z2x,Z2y,Z2z,Z30,Z31,Z32,Z33,Z34,Z35,Z36,Z37,Z38,Z39,Z3a,Z3b,Z3c,Z3d,Z3e,Z3f,Z3g,Z3h,Z3i,Z3j,Z3k,Z3l,Z3m,Z3n,Z3o,Z3p,Z3q,Z3r,Z3s,Z3t,Z3u,Z3v,Z3w,Z3x,Z3y,Z3z,Z40,Z41,Z42,Z43,Z44,Z45,Z46,Z47,Z48,Z49,Z4a,Z4b,Z4c,Z4d,Z4e,Z4f,Z4g,Z4h,Z4i,Z4j,Z4k,Z4l,Z4m,Z4n,Z4o,Z4p,Z4q,Z4r,Z4s,Z4t,Z4u,Z4v,Z4w,Z4x,Z4y,Z4z,Z50,Z51,Z52,Z53,Z54,Z55,Z56,Z57,Z58,Z59,Z5a,Z5b,Z5c,Z5d,Z5e,Z5f,Z5g,Z5h,Z5i,Z5j,Z5k,Z5l,Z5m,Z5n,Z5o,Z5p,Z5q,Z5r,Z5s,Z5t,Z5u,Z5v,Z5w,Z5x,Z5y,Z5z,Z60,Z61,Z62,Z63,Z64,Z65,Z66,Z67,Z68,Z69,Z6a,Z6b,Z6c,Z6d,Z6e,Z6f,Z6g,Z6h,Z6i,Z6j,Z6k,Z6l,Z6m,Z6n,Z6o,Z6p,Z6q,Z6r,Z6s,Z6t,Z6u,Z6v,Z6w,Z6x,Z6y,Z6z], dl⟩ X := by
  rw [show (Tryz.f9.body.bind (regionOf 37)) = some (Code.region 37 _ true) from rfl] at hcd
  obtain rfl := Option.some.inj hcd
  clear hcd
  dsimp only at hQ ⊢
  obtain ⟨p0, p1, p2⟩ := rr.box.c3
  have la0 := rr.box.lt
  obtain ⟨y0, y1, y2⟩ := hx.c3
  have lr0 := hx.lt
  have z0 : (0 : Int) ≤ (k : Int) := by omega
  have g1 : (k : Int) < (o2.length : Int) := by omega
  have z1 : (0 : Int) ≤ (i : Int) := by omega
  have g2 : (i : Int) < (cs.length : Int) := by omega
  obtain ⟨la, hla, laB, ex0, hq⟩ := (hS).sp (by decide) hk
  clear hq
  obtain ⟨lb, hlb, lbB, ey0, hq⟩ := (rr.r.c).sp (by decide) hi
  clear hq
  clear rr hS
  obtain ⟨x, hx'⟩ : ∃ x, o2[k] = x := ⟨_, rfl⟩
  rw [hx'] at ex0 hQ
  clear hx'
  obtain ⟨y, hy⟩ : ∃ y, cs[i] = y := ⟨_, rfl⟩
  rw [hy] at ey0 hQ
  clear hy
  replace ex0 : X.cell? (la.add (k * 5)) = some (.int .i64 x.a) := ex0
  replace ey0 : X.cell? (lb.add (i * 4)) = some (.int .i64 y.a) := ey0
  subst hla
  subst hlb
  cases b with
  | true =>
    clear ex0 ey0
    refine wp_region_kept X.heap.size X (by kernel_rfl) (by kernel_rfl) (Below.refl _ _) ?_
    repeat (go_big_quiet_step (fail))
    refine wpQuiet_nil ?_
    rintro w5 ⟨⟨w5x, hb5⟩, hw5⟩
    dsimp only at hw5
    subst hw5
    exact hQ _ _ _ _ _ _ _ _ _ _ _ _ _ _ _ _ true rfl hb5
  | false =>
    obtain ⟨r, hr⟩ : ∃ r, (x.a == y.a) = r := ⟨_, rfl⟩
    refine wp_region_kept X.heap.size X (by kernel_rfl) (by kernel_rfl) (Below.refl _ _) ?_
    repeat (go_big_quiet_step (fail))
    refine wpQuiet_nil ?_
    rintro w5 ⟨⟨w5x, hb5⟩, hw5⟩
    dsimp only at hw5
    subst hw5
    exact hQ _ _ _ _ _ _ _ _ _ _ _ _ _ _ _ _ r (by rw [← hr, Bool.false_or, Bool.eq_iff_iff]; simp) hb5
end Go.Proofs.YtciolgmljpamlaaGreatDoor
end
