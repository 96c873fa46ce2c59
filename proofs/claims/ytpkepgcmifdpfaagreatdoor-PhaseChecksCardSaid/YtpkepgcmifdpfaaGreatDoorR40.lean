/- A bundle of texts: Rp3, Rp4, Rp5, Rp6, Rp7, Rp8, Rp9, RpB, RpC. -/
import Derived.Test.YtpkepgcmifdpfaaGreatDoorR31
import Derived.Test.YtpkepgcmifdpfaaGreatDoorR28
import Derived.Test.YtpkepgcmifdpfaaGreatDoorR26
import Derived.Test.YtpkepgcmifdpfaaGreatDoorR06
import Derived.Deep.RegionHeld3
import Derived.Test.YtpkepgcmifdpfaaGreatDoorR15
import Derived.Test.YtpkepgcmifdpfaaGreatDoorR01
import Derived.Test.YtpkepgcmifdpfaaGreatDoorR10
import Derived.Test.YtpkepgcmifdpfaaGreatDoorR33
section
namespace Go.Proofs.YtpkepgcmifdpfaaGreatDoor
open Go Go.RowKit
set_option maxRecDepth 100000
set_option maxHeartbeats 32000000 in
theorem rError46_ok (LA TA CA : Option Addr) (lc tc cc : Nat) (l : List Mv) (T C : List Si) (w : World) (hL : Sl 6 mvcell w w.heap.size LA l) (hT : Sl 2 sicell w w.heap.size TA T) (hC : Sl 2 sicell w w.heap.size CA C) (hl : l.length ≤ 1000000000) (hTl : T.length ≤ 1000000000) (hCl : C.length ≤ 1000000000) (er : Int) (her : M.twIs l T C er) :
    Calls Tryz.prog 37 #[.slice LA l.length lc, .slice TA T.length tc, .slice CA C.length cc] w fun e w' => e = .returned (.int .i64 er) ∧ Below w.heap.size w w' := by
  have HER := Lib.hid her
  have HLL := Lib.hid hl
  have kM := rMoves_ok LA lc l w hL (by omega)
  obtain ⟨rT, hrT⟩ : ∃ r : Bool, r = true ↔ M.sisOk T := ⟨(Classical.propDecidable (M.sisOk T)).decide, by simp⟩
  obtain ⟨rC, hrC⟩ : ∃ r : Bool, r = true ↔ M.sisOk C := ⟨(Classical.propDecidable (M.sisOk C)).decide, by simp⟩
  have KT : Hid (∀ W, Below w.heap.size w W → Calls Tryz.prog 36 #[.slice TA T.length tc] W fun e w' => e = .returned (.bool rT) ∧ Below W.heap.size W w') := Lib.hid (fun W hW => rSites_ok TA tc T W ((hT.below hW).more hW.size) (by omega) rT hrT)
  have KC : Hid (∀ W, Below w.heap.size w W → Calls Tryz.prog 36 #[.slice CA C.length cc] W fun e w' => e = .returned (.bool rC) ∧ Below W.heap.size W w') := Lib.hid (fun W hW => rSites_ok CA cc C W ((hC.below hW).more hW.size) (by omega) rC hrC)
  have HRT := Lib.hid hrT
  have HRC := Lib.hid hrC
  have HTT := Lib.hid hT
  have HCC := Lib.hid hC
  have HLS := Lib.hid hL
  clear her hl hrT hrC hT hC hL
  go_enter Tryz.func37, Tryz.ntmps37
  go_wp2_with fail
  refine kM.mono ?_
  rintro e w1 ⟨⟨rM, rfl, hrM⟩, hb1⟩
  clear kM
  have HRM := Lib.hid hrM
  clear hrM
  have HNO : Hid (¬ M.twOk l T C → er = 2) := Lib.hid (fun h => by
    rcases HER.out with ⟨h1, -⟩ | ⟨h1, -⟩ | ⟨-, h2⟩
    · exact absurd h1 h
    · exact absurd h1 h
    · exact h2)
  cases rM with
  | false =>
    have HE : Hid (er = 2) := Lib.hid (HNO.out (fun h => by cases HRM.out.2 h.1))
    go_wp2_with fail
    go_ret
    exact ⟨by rw [HE.out]; rfl, hb1⟩
  | true =>
    have kT := KT.out w1 hb1
    go_wp2_with fail
    refine kT.mono ?_
    rintro e w2 ⟨rfl, hb2⟩
    clear kT
    have B2 := after_ hb1 hb2
    cases rT with
    | false =>
      have HE : Hid (er = 2) := Lib.hid (HNO.out (fun h => by cases HRT.out.2 h.2.1))
      go_wp2_with fail
      go_ret
      exact ⟨by rw [HE.out]; rfl, B2⟩
    | true =>
      have kC := KC.out w2 B2
      go_wp2_with fail
      refine kC.mono ?_
      rintro e w3 ⟨rfl, hb3⟩
      clear kC
      have B3 := after_ B2 hb3
      clear hb1 hb2 hb3 B2
      cases rC with
      | false =>
        have HE : Hid (er = 2) := Lib.hid (HNO.out (fun h => by cases HRC.out.2 h.2.2))
        go_wp2_with fail
        go_ret
        exact ⟨by rw [HE.out]; rfl, B3⟩
      | true =>
        have HOK : Hid (M.twOk l T C) := Lib.hid ⟨HRM.out.1 (by trivial), HRT.out.1 (by trivial), HRC.out.1 (by trivial)⟩
        go_wp2_with fail
        clear HRM HRT HRC HNO KT KC
        go_loopw [7] (fun i wr => ∃ k : Nat, k ≤ l.length ∧ i = .int .i64 k ∧ Below w.heap.size w wr ∧ Hid (∀ j (hj : j < l.length), j < k → M.cap T l[j].tw ≠ 0 ∧ M.cap C l[j].cr ≠ 0)) (fun i _ => l.length - (intOf i).toNat)
        case atStart => exact ⟨0, Nat.zero_le _, rfl, B3, Lib.hid (fun j _ h => absurd h (by omega))⟩
        case round =>
          clear B3
          obtain ⟨k, hk, rfl, hB, HN⟩ := hrel
          by_cases hlt : k < l.length
          · obtain ⟨la, hla, hlb, a0, a1, a2, a3, a4, a5⟩ := ((HLS.out.below hB).more hB.size).mv6 hlt
            have x0 : (0 : Int) ≤ (k : Int) := by omega
            have y0 : (k : Int) < (l.length : Int) := by omega
            have q0 : decide ((k : Int) < (l.length : Int)) = true := decide_eq_true y0
            have kA := rCapacity_ok TA tc T l[k].tw wr ((HTT.out.below hB).more hB.size) (by omega)
            have kD := rCapacity_ok CA cc C l[k].cr wr ((HCC.out.below hB).more hB.size) (by omega)
            have HBAD : Hid ((M.cap T l[k].tw = 0 ∨ M.cap C l[k].cr = 0) → er = 9) := Lib.hid (fun h => by
              rcases HER.out with ⟨-, h2, -⟩ | ⟨-, -, h2⟩ | ⟨h1, -⟩
              · have := h2 _ (List.getElem_mem hlt)
                rcases h with h | h
                · exact absurd h this.1
                · exact absurd h this.2
              · exact h2
              · exact absurd HOK.out h1)
            have HNX : Hid (M.cap T l[k].tw ≠ 0 → M.cap C l[k].cr ≠ 0 → ∀ j (hj : j < l.length), j < k + 1 → M.cap T l[j].tw ≠ 0 ∧ M.cap C l[j].cr ≠ 0) := Lib.hid (fun h1 h2 j hj h => by
              by_cases e : j = k
              · subst e; exact ⟨h1, h2⟩
              · exact HN.out j hj (by omega))
            have hlb2 := HLL.out
            clear HN
            generalize M.cap T l[k].tw = ct at *
            generalize M.cap C l[k].cr = cr at *
            generalize l[k] = m at *
            subst hla
            go_wp2_with fail
            refine kA.mono ?_
            rintro e w4 ⟨rfl, rfl⟩
            clear kA
            by_cases h1 : ct = 0
            · have HE : Hid (er = 9) := Lib.hid (HBAD.out (.inl h1))
              subst h1
              clear HBAD HNX
              go_wp2_with fail
              go_ret
              exact ⟨by rw [HE.out]; rfl, hB⟩
            · have q1 : (ct == 0) = false := by simpa using h1
              have H1 := Lib.hid h1
              clear h1
              go_wp2_with fail
              refine kD.mono ?_
              rintro e w5 ⟨rfl, rfl⟩
              clear kD
              by_cases h2 : cr = 0
              · have HE : Hid (er = 9) := Lib.hid (HBAD.out (.inr h2))
                subst h2
                clear HBAD HNX
                go_wp2_with fail
                go_ret
                exact ⟨by rw [HE.out]; rfl, hB⟩
              · have q2 : (cr == 0) = false := by simpa using h2
                have HE := Lib.hid (HNX.out H1.out h2)
                clear HBAD HNX h2
                go_wp2_with fail
                go_roundw
                case rel => exact ⟨k + 1, hlt, by go_num, hB, HE⟩
                case measure => simp [intOf]; omega
          · obtain rfl : k = l.length := by omega
            have q0 : decide ((l.length : Int) < (l.length : Int)) = false := decide_eq_false (by omega)
            have HE : Hid (er = 0) := Lib.hid (by
              rcases HER.out with ⟨-, -, h2⟩ | ⟨-, h2, -⟩ | ⟨h1, -⟩
              · exact h2
              · exact absurd (fun m hm => by obtain ⟨j, hj, rfl⟩ := List.getElem_of_mem hm; exact HN.out j hj hj) h2
              · exact absurd HOK.out h1)
            go_wp2_with fail
            go_ret
            exact ⟨by rw [HE.out]; rfl, hB⟩
end Go.Proofs.YtpkepgcmifdpfaaGreatDoor
end

section
namespace Go.Proofs.YtpkepgcmifdpfaaGreatDoor
open Go Go.RowKit
set_option maxRecDepth 100000
set_option maxHeartbeats 16000000 in
theorem rError48_ok (a : TrA) (t : Tr) (w : World) (hm : TrM w a t) (er : Int) (her : M.trIs t er) :
    Calls Tryz.prog 14 #[trV a t] w fun e w' => e = .returned (.int .i64 er) ∧ Below w.heap.size w w' := by
  have HER := Lib.hid her
  clear her
  obtain ⟨X, HX, x0, hB, -⟩ := boxes1 w (trc a t) 28
  have hX := HX.out
  have tx := hm.next hB
  obtain ⟨c0, c1, c2, c3, c4, c5⟩ := x0.c6
  obtain ⟨r, hr⟩ : ∃ r : Bool, r = true ↔ M.trOk t := ⟨(Classical.propDecidable (M.trOk t)).decide, by simp⟩
  have kV := rValid48_ok a t X tx r hr
  have HR := Lib.hid hr
  clear hr
  go_enter Tryz.func14, Tryz.ntmps14
  go_wp2_with fail
  clear hX c0 c1 c2 c3 c4 c5
  refine kV.mono ?_
  rintro e w1 ⟨rfl, hb1⟩
  clear kV
  have B1 := after_ hB hb1
  have t1 := tx.next hb1
  obtain ⟨c0, c1, c2, c3, c4, c5⟩ := (x0.below hb1).c6
  clear tx x0 hb1 hB
  cases r with
  | false =>
    have HE : Hid (er = 2) := Lib.hid (by
      have hno : ¬ M.trOk t := fun h => by cases HR.out.2 h
      rcases HER.out with ⟨h, -⟩ | ⟨h, -⟩ | ⟨h, -⟩ | ⟨-, h⟩
      · exact absurd h hno
      · exact absurd h hno
      · exact absurd h hno
      · exact h)
    go_wp2_with fail
    go_ret
    exact ⟨by rw [HE.out]; rfl, B1⟩
  | true =>
    have hok := HR.out.1 rfl
    by_cases hp : 20000 < t.ps.length
    · have HE : Hid (er = 7) := Lib.hid (by
        rcases HER.out with ⟨-, h, -⟩ | ⟨-, h, -⟩ | ⟨-, -, h⟩ | ⟨h, -⟩
        · omega
        · omega
        · exact h
        · exact absurd hok h)
      have q0 : decide ((t.ps.length : Int) > 20000) = true := decide_eq_true (by omega)
      have q1 : decide ((20000 : Int) < (t.ps.length : Int)) = true := decide_eq_true (by omega)
      have q2 : (20000 : Int) < (t.ps.length : Int) := by omega
      clear hok
      go_wp2_with fail
      go_ret
      exact ⟨by rw [HE.out]; rfl, B1⟩
    · have h46 : M.twIs t.l t.T t.C er := by
        rcases HER.out with ⟨h1, -, h2, h3⟩ | ⟨h1, -, h2, h3⟩ | ⟨-, h, -⟩ | ⟨h, -⟩
        · exact .inl ⟨⟨h1.1, h1.2.1, h1.2.2.1⟩, h2, h3⟩
        · exact .inr (.inl ⟨⟨h1.1, h1.2.1, h1.2.2.1⟩, h2, h3⟩)
        · exact absurd h hp
        · exact absurd hok h
      have q0 : decide ((t.ps.length : Int) > 20000) = false := decide_eq_false (by omega)
      have q1 : decide ((20000 : Int) < (t.ps.length : Int)) = false := decide_eq_false (by omega)
      have q2 : ¬ (20000 : Int) < (t.ps.length : Int) := by omega
      have hll := hok.1.1
      have hlT := M.siLen hok.2.1
      have hlC := M.siLen hok.2.2.1
      have kE := rError46_ok a.L a.T a.C a.l a.t a.c t.l t.T t.C w1 t1.L t1.T t1.C (by omega) (by omega) (by omega) er h46
      clear hok h46 hll hlT hlC
      go_wp2_with fail
      refine kE.mono ?_
      rintro e w2 ⟨rfl, hb2⟩
      clear kE
      go_wp2_with fail
      go_ret
      exact ⟨rfl, after_ B1 hb2⟩
end Go.Proofs.YtpkepgcmifdpfaaGreatDoor
end

section
namespace Go.Proofs.YtpkepgcmifdpfaaGreatDoor
open Go Go.RowKit
set_option maxRecDepth 100000
theorem M.pick_take {l : List Mv} {ss : List Int} {k : Nat} (h : k < l.length) : M.pick (l.take (k + 1)) ss = M.pick (l.take k) ss ++ if l[k].st ∈ ss then [l[k]] else [] := by
  unfold M.pick
  rw [List.take_succ_eq_append_getElem h, List.filter_append]
  congr 1
  by_cases e : l[k].st ∈ ss
  · rw [if_pos e, List.filter_cons_of_pos (by simpa using e)]; rfl
  · rw [if_neg e, List.filter_cons_of_neg (by simpa using e)]; rfl
set_option maxHeartbeats 16000000 in
theorem rOf_ok (a : TrA) (t : Tr) (SA : Option Addr) (sc : Nat) (ss : List Int) (w : World) (hm : TrM w a t) (hl : t.l.length ≤ 512) (hS : Sl 1 icell w w.heap.size SA ss) (hs : ss.length ≤ 1000000) :
    Calls Tryz.prog 38 #[trV a t, .slice SA ss.length sc] w fun e w' => (∃ v, e = .returned v ∧ w'.ownsRow w.heap.size 66 6 v (M.pick t.l ss).length (flat 6 mvcell (M.pick t.l ss))) ∧ Below w.heap.size w w' := by
  obtain ⟨im, him, hzm0, hzm1, hzm2⟩ := info_parts moveInfo
  have Him := Lib.hid him; have Hzm0 := Lib.hid hzm0; have Hzm1 := Lib.hid hzm1; have Hzm2 := Lib.hid hzm2
  clear him hzm0 hzm1 hzm2
  obtain ⟨X, HX, x0, hB, -⟩ := boxes1 w (trc a t) 28
  have hX := HX.out
  have HTR := Lib.hid hm
  have HSS := Lib.hid hS
  have HLS := Lib.hid hs
  clear hm hS hs
  go_enter Tryz.func38, Tryz.ntmps38
  go_wp2_with fail
  clear hX
  go_loopw [5, 6] (fun v i wr => ∃ k : Nat, k ≤ t.l.length ∧ i = .int .i64 k ∧ Below w.heap.size w wr ∧ Box wr w.heap.size (trc a t) 28 ∧ wr.ownsRow w.heap.size 66 6 v (M.pick (t.l.take k) ss).length (flat 6 mvcell (M.pick (t.l.take k) ss))) (fun _ i _ => t.l.length - (intOf i).toNat)
  case atStart => exact ⟨0, Nat.zero_le _, rfl, hB, x0, own_nil _ _ _ _ _⟩
  case round =>
    clear hB x0
    obtain ⟨k, hk, rfl, hB, x0, hown⟩ := hrel
    have c1 := x0.c6.2.1
    by_cases hlt : k < t.l.length
    · have tx := HTR.out.next hB
      obtain ⟨la, hla, hlb, a0, a1, a2, a3, a4, a5⟩ := tx.L.mv6 hlt
      have y0 : (0 : Int) ≤ (k : Int) := by omega
      have y1 : (k : Int) < (t.l.length : Int) := by omega
      have q0 : decide ((k : Int) < (t.l.length : Int)) = true := decide_eq_true y1
      obtain ⟨r, hr⟩ : ∃ r : Bool, r = true ↔ t.l[k].st ∈ ss := ⟨decide (t.l[k].st ∈ ss), by simp⟩
      have kH := rHas_ok SA sc _ ss t.l[k].st wr ((HSS.out.below hB).more hB.size) (by have := HLS.out; omega) r hr
      have HPT : Hid (M.pick (t.l.take (k + 1)) ss = M.pick (t.l.take k) ss ++ if r = true then [t.l[k]] else []) := Lib.hid (by
        rw [M.pick_take hlt]
        by_cases e : t.l[k].st ∈ ss
        · rw [if_pos e, if_pos (hr.2 e)]
        · rw [if_neg e, if_neg (fun h => e (hr.1 h))])
      have hpl : (M.pick (t.l.take k) ss).length ≤ 512 := by
        have h1 := (M.pick_sub (t.l.take k) ss).length_le
        rw [List.length_take] at h1
        omega
      clear hr tx
      generalize M.pick (t.l.take k) ss = pk at *
      generalize t.l[k] = m at *
      rw [hla] at c1
      go_wp2_with fail
      refine kH.mono ?_
      rintro e w4 ⟨rfl, rfl⟩
      clear kH
      cases r with
      | false =>
        go_wp2_with fail
        go_roundw
        case rel => exact ⟨k + 1, hlt, by go_num, hB, x0, by rw [HPT.out, if_neg (by decide), List.append_nil]; exact hown⟩
        case measure => simp [intOf]; omega
      | true =>
        go_wp2_with (at_builtin; refine wpList_push2 (w0 := w) (cell := mvcell) (y := m) rfl _ _ _ rfl w.heap.size w.heap.size 66 im _ 48 Tryz.underlying23 Him.out Hzm0.out Hzm1.out Hzm2.out rfl (by decide) _ _ pk rfl hown _ _ rfl 1 rfl (fun j => mv_one m j) (by unfold maxLen; omega) (by omega) hB.size (Nat.le_refl _) hB ?_; intro v7 w7 hown7 hb7 hg7 _)
        have x7 := x0.grown hg7 (x0.ne_own (by decide) hown)
        go_roundw
        case rel => exact ⟨k + 1, hlt, by go_num, hb7, x7, by rw [HPT.out, if_pos (by trivial), List.length_append]; exact hown7⟩
        case measure => simp [intOf]; omega
    · obtain rfl : k = t.l.length := by omega
      have q0 : decide ((t.l.length : Int) < (t.l.length : Int)) = false := decide_eq_false (by omega)
      rw [List.take_length] at hown
      go_wp2_with fail
      go_ret
      exact ⟨⟨_, rfl, hown⟩, hB⟩
end Go.Proofs.YtpkepgcmifdpfaaGreatDoor
end

section
namespace Go.Proofs.YtpkepgcmifdpfaaGreatDoor
open Go Go.RowKit
set_option maxRecDepth 100000
set_option maxHeartbeats 32000000 in
theorem rUsed_ok (LA WA : Option Addr) (lc wc : Nat) (l : List Mv) (ws : List (Mv × Nat)) (cr : Bool) (id : Int) (wk : Nat) (w : World) (hL : Sl 6 mvcell w w.heap.size LA l) (hW : Sl 3 wcell w w.heap.size WA ws) (hl : l.length ≤ 1000000) (hwl : ws.length ≤ l.length) (hws : ∀ k (hk : k < ws.length), ws[k].1 = l[k]) (hok : ∀ x ∈ ws, x.2 ≤ 1000000 ∧ M.wkN x.1 ≤ 52) :
    Calls Tryz.prog 102 #[.slice LA l.length lc, .slice WA ws.length wc, .int .i64 (ws.length : Nat), .int .i64 (wk : Nat), .int .i64 id, .bool cr] w fun e w' => e = .returned (.int .i64 (M.usd ws (cr, id) wk : Nat)) ∧ w = w' := by
  have HL := Lib.hid hl
  have HWL := Lib.hid hwl
  have HWS := Lib.hid hws
  have HOK := Lib.hid hok
  clear hl hws hok
  go_enter Tryz.func102, Tryz.ntmps102
  go_wp2_with fail
  go_loopw [13, 14, 15] (fun u i _ wr => ∃ k : Nat, k ≤ ws.length ∧ i = .int .i64 k ∧ u = .int .i64 (M.usd (ws.take k) (cr, id) wk : Nat) ∧ w = wr) (fun _ i _ _ => ws.length - (intOf i).toNat)
  case atStart => exact ⟨0, Nat.zero_le _, rfl, rfl, rfl⟩
  case round =>
    obtain ⟨k, hk, rfl, rfl, rfl⟩ := hrel
    by_cases hlt : k < ws.length
    · have hlk : k < l.length := by have := HWL.out; omega
      obtain ⟨la, hla, hlb, a0, a1, a2, a3, a4, a5⟩ := hL.mv6 hlk
      obtain ⟨lb, hlb2, hlb3, b0, b1, b2⟩ := hW.wk3 hlt
      have hwk := HOK.out _ (List.getElem_mem hlt)
      have HUS : Hid (M.usd (ws.take (k + 1)) (cr, id) wk = M.usd (ws.take k) (cr, id) wk + if M.plc ws[k].1 cr = (cr, id) ∧ ws[k].2 ≤ wk ∧ wk < ws[k].2 + M.wkN ws[k].1 then 1 else 0) := Lib.hid (by rw [List.take_succ_eq_append_getElem hlt, M.usd_snoc])
      have HUB : Hid (M.usd (ws.take k) (cr, id) wk ≤ 1000000) := Lib.hid (by
        unfold M.usd
        have h1 := List.length_filter_le (fun x : Mv × Nat => decide (M.plc x.1 (cr, id).1 = (cr, id)) && (decide (x.2 ≤ wk) && decide (wk < x.2 + M.wkN x.1))) (ws.take k)
        rw [List.length_take] at h1
        have := HL.out
        omega)
      have hwe := HWS.out k hlt
      rw [← hwe] at a3 a4
      have hub := HUB.out
      have x0 : (0 : Int) ≤ (k : Int) := by omega
      have y0 : (k : Int) < (ws.length : Int) := by omega
      have y1 : (k : Int) < (l.length : Int) := by omega
      have q0 : decide ((k : Int) < (ws.length : Int)) = true := decide_eq_true y0
      have hl2 := HL.out
      have zk : (k : Int) + 1 ≤ 1000000 := by omega
      have zu : (M.usd (ws.take k) (cr, id) wk : Int) + 1 ≤ 1000001 := by omega
      clear a0 a1 a2 a5 b0 hwe
      generalize M.usd (ws.take k) (cr, id) wk = u at *
      generalize ws[k].1 = m at *
      generalize ws[k].2 = st at *
      generalize M.wkN m = mw at *
      obtain ⟨en, hen⟩ : ∃ n, st + mw = n := ⟨_, rfl⟩
      rw [hen] at b2 HUS
      clear hen hwk
      subst hla
      subst hlb2
      cases cr with
      | false =>
        obtain ⟨own, hown⟩ : ∃ o, m.tw = o := ⟨_, rfl⟩
        rw [hown] at a3
        have HPL : Hid (M.plc m false = (false, id) ↔ own = id) := Lib.hid (by rw [← hown]; unfold M.plc; simp)
        clear hown
        by_cases h1 : own = id
        · by_cases h2 : st ≤ wk
          · by_cases h3 : wk < en
            · have HU2 := Lib.hid (HUS.out.trans (by rw [if_pos ⟨HPL.out.2 h1, h2, h3⟩]))
              have q1 : (own == id) = true := by simpa using h1
              have q2 : decide ((st : Int) ≤ (wk : Int)) = true := decide_eq_true (by omega)
              have q3 : decide ((wk : Int) < (en : Int)) = true := decide_eq_true (by omega)
              subst h1
              clear HUS HPL
              go_wp2_with fail
              go_roundw
              case rel => exact ⟨k + 1, hlt, by go_num, by rw [HU2.out]; go_num, trivial⟩
              case measure => simp [intOf]; omega
            · have HU2 := Lib.hid (HUS.out.trans (by rw [if_neg (fun h => h3 h.2.2)]))
              have q1 : (own == id) = true := by simpa using h1
              have q2 : decide ((st : Int) ≤ (wk : Int)) = true := decide_eq_true (by omega)
              have q3 : decide ((wk : Int) < (en : Int)) = false := decide_eq_false (by omega)
              subst h1
              clear HUS HPL
              go_wp2_with fail
              go_roundw
              case rel => exact ⟨k + 1, hlt, by go_num, by rw [HU2.out]; rfl, trivial⟩
              case measure => simp [intOf]; omega
          · have HU2 := Lib.hid (HUS.out.trans (by rw [if_neg (fun h => h2 h.2.1)]))
            have q1 : (own == id) = true := by simpa using h1
            have q2 : decide ((st : Int) ≤ (wk : Int)) = false := decide_eq_false (by omega)
            subst h1
            clear HUS HPL
            go_wp2_with fail
            go_roundw
            case rel => exact ⟨k + 1, hlt, by go_num, by rw [HU2.out]; rfl, trivial⟩
            case measure => simp [intOf]; omega
        · have HU2 := Lib.hid (HUS.out.trans (by rw [if_neg (fun h => h1 (HPL.out.1 h.1))]))
          have q1 : (own == id) = false := by simpa using h1
          clear HUS HPL h1
          go_wp2_with fail
          go_roundw
          case rel => exact ⟨k + 1, hlt, by go_num, by rw [HU2.out]; rfl, trivial⟩
          case measure => simp [intOf]; omega
      | true =>
        obtain ⟨own, hown⟩ : ∃ o, m.cr = o := ⟨_, rfl⟩
        rw [hown] at a4
        have HPL : Hid (M.plc m true = (true, id) ↔ own = id) := Lib.hid (by rw [← hown]; unfold M.plc; simp)
        clear hown
        by_cases h1 : own = id
        · by_cases h2 : st ≤ wk
          · by_cases h3 : wk < en
            · have HU2 := Lib.hid (HUS.out.trans (by rw [if_pos ⟨HPL.out.2 h1, h2, h3⟩]))
              have q1 : (own == id) = true := by simpa using h1
              have q2 : decide ((st : Int) ≤ (wk : Int)) = true := decide_eq_true (by omega)
              have q3 : decide ((wk : Int) < (en : Int)) = true := decide_eq_true (by omega)
              subst h1
              clear HUS HPL
              go_wp2_with fail
              go_roundw
              case rel => exact ⟨k + 1, hlt, by go_num, by rw [HU2.out]; go_num, trivial⟩
              case measure => simp [intOf]; omega
            · have HU2 := Lib.hid (HUS.out.trans (by rw [if_neg (fun h => h3 h.2.2)]))
              have q1 : (own == id) = true := by simpa using h1
              have q2 : decide ((st : Int) ≤ (wk : Int)) = true := decide_eq_true (by omega)
              have q3 : decide ((wk : Int) < (en : Int)) = false := decide_eq_false (by omega)
              subst h1
              clear HUS HPL
              go_wp2_with fail
              go_roundw
              case rel => exact ⟨k + 1, hlt, by go_num, by rw [HU2.out]; rfl, trivial⟩
              case measure => simp [intOf]; omega
          · have HU2 := Lib.hid (HUS.out.trans (by rw [if_neg (fun h => h2 h.2.1)]))
            have q1 : (own == id) = true := by simpa using h1
            have q2 : decide ((st : Int) ≤ (wk : Int)) = false := decide_eq_false (by omega)
            subst h1
            clear HUS HPL
            go_wp2_with fail
            go_roundw
            case rel => exact ⟨k + 1, hlt, by go_num, by rw [HU2.out]; rfl, trivial⟩
            case measure => simp [intOf]; omega
        · have HU2 := Lib.hid (HUS.out.trans (by rw [if_neg (fun h => h1 (HPL.out.1 h.1))]))
          have q1 : (own == id) = false := by simpa using h1
          clear HUS HPL h1
          go_wp2_with fail
          go_roundw
          case rel => exact ⟨k + 1, hlt, by go_num, by rw [HU2.out]; rfl, trivial⟩
          case measure => simp [intOf]; omega
    · obtain rfl : k = ws.length := by omega
      have q0 : decide ((ws.length : Int) < (ws.length : Int)) = false := decide_eq_false (by omega)
      rw [List.take_length]
      go_wp2_with fail
      go_ret
      exact ⟨rfl, rfl⟩
end Go.Proofs.YtpkepgcmifdpfaaGreatDoor
end

section
namespace Go.Proofs.YtpkepgcmifdpfaaGreatDoor
open Go Go.RowKit
set_option maxRecDepth 100000
structure FrI (w : World) (LA WA TA CA : Option Addr) (l : List Mv) (ws : List (Mv × Nat)) (T C : List Si) : Prop where
  sL : Sl 6 mvcell w w.heap.size LA l
  sW : Sl 3 wcell w w.heap.size WA ws
  sT : Sl 2 sicell w w.heap.size TA T
  sC : Sl 2 sicell w w.heap.size CA C
  hl : l.length ≤ 512
  hT : T.length ≤ 256
  hC : C.length ≤ 256
  hw : ws.length < l.length
  eq : ∀ k (hk : k < ws.length), ws[k].1 = l[k]
  ok : ∀ x ∈ ws, x.2 ≤ 1000000 ∧ M.wkN x.1 ≤ 52
theorem FrI.next {w w' : World} {LA WA TA CA : Option Addr} {l : List Mv} {ws : List (Mv × Nat)} {T C : List Si} (h : FrI w LA WA TA CA l ws T C) (hb : Below w.heap.size w w') : FrI w' LA WA TA CA l ws T C :=
  ⟨(h.sL.below hb).more hb.size, (h.sW.below hb).more hb.size, (h.sT.below hb).more hb.size, (h.sC.below hb).more hb.size, h.hl, h.hT, h.hC, h.hw, h.eq, h.ok⟩
set_option maxHeartbeats 32000000 in
theorem rFree_ok (LA WA TA CA : Option Addr) (lc wc tc cc : Nat) (l : List Mv) (ws : List (Mv × Nat)) (T C : List Si) (start : Nat) (w : World) (h : FrI w LA WA TA CA l ws T C) (hs : start ≤ 1000000) (m : Mv) (hm : m = l[ws.length]'h.hw) (hmk : M.mvOk m = true) (r : Bool) (hr : r = M.fre (M.fullW T C ws m) (M.wkN m) start) :
    Calls Tryz.prog 71 #[.slice LA l.length lc, .slice WA ws.length wc, .slice TA T.length tc, .slice CA C.length cc, .int .i64 (ws.length : Nat), .int .i64 (start : Nat)] w fun e w' => e = .returned (.bool r) ∧ Below w.heap.size w w' := by
  obtain ⟨X, HX, x0, hB, -⟩ := boxes1 w (mvc m) 66
  have hX := HX.out
  obtain ⟨la, hla, hlb, a0, a1, a2, a3, a4, a5⟩ := h.sL.mv6 h.hw
  rw [← hm] at a0 a1 a2 a3 a4 a5
  have HR := Lib.hid hr
  have HF := Lib.hid h
  obtain ⟨hw1, hw2, hw3⟩ := M.wkN_le hmk
  have x00 : (0 : Int) ≤ (ws.length : Int) := by omega
  have x01 : (ws.length : Int) < (l.length : Int) := by have := h.hw; omega
  clear hr hm h hmk
  subst hla
  go_enter Tryz.func71, Tryz.ntmps71
  go_wp2_with fail
  clear hX a0 a1 a2 a3 a4 a5
  go_loopw [14] (fun i wr => ∃ k : Nat, k ≤ M.wkN m ∧ i = .int .i64 (start + k : Nat) ∧ Below w.heap.size w wr ∧ Box wr w.heap.size (mvc m) 66 ∧ Hid (∀ j, j < k → M.fullW T C ws m (start + j) = false)) (fun i _ => start + M.wkN m - (intOf i).toNat)
  case atStart => exact ⟨0, Nat.zero_le _, rfl, hB, x0, Lib.hid (fun j h => absurd h (by omega))⟩
  case round =>
    clear hB x0
    obtain ⟨k, hk, rfl, hB, x0, HN⟩ := hrel
    obtain ⟨u1, u2, u3, u4, u5, u6⟩ := x0.c6'
    by_cases hlt : k < M.wkN m
    · have f := HF.out.next hB
      have hlt0 : w.heap.size < wr.heap.size := x0.lt
      have q0 : decide (((start + k : Nat) : Int) < (start : Int) + m.wk) = true := decide_eq_true (by omega)
      have q1 : ((start + k : Nat) : Int) < (start : Int) + m.wk := by omega
      obtain ⟨s, hs2⟩ : ∃ s, start + k = s := ⟨_, rfl⟩
      obtain ⟨ut, hut⟩ : ∃ u, M.usd ws (false, m.tw) s = u := ⟨_, rfl⟩
      obtain ⟨uc, huc⟩ : ∃ u, M.usd ws (true, m.cr) s = u := ⟨_, rfl⟩
      obtain ⟨ct, hct⟩ : ∃ u, M.cap T m.tw = u := ⟨_, rfl⟩
      obtain ⟨cc2, hcc⟩ : ∃ u, M.cap C m.cr = u := ⟨_, rfl⟩
      have HFW : Hid (M.fullW T C ws m s = (decide (ct ≤ (ut : Int)) || decide (cc2 ≤ (uc : Int)))) := Lib.hid (by rw [← hut, ← huc, ← hct, ← hcc]; rfl)
      have hwl := f.hw
      have hll := f.hl
      have hTl := f.hT
      have hCl := f.hC
      have K1 := Lib.hid (fun (u : Kept wr.heap.size wr) => rUsed_ok (some la) WA lc wc l ws false m.tw s u.val ((f.sL.below u.h).more u.h.size) ((f.sW.below u.h).more u.h.size) (by omega) (by omega) f.eq f.ok)
      have K2 := Lib.hid (fun (u : Kept wr.heap.size wr) => rUsed_ok (some la) WA lc wc l ws true m.cr s u.val ((f.sL.below u.h).more u.h.size) ((f.sW.below u.h).more u.h.size) (by omega) (by omega) f.eq f.ok)
      have K3 := Lib.hid (fun (u : Kept wr.heap.size wr) => rCapacity_ok TA tc T m.tw u.val ((f.sT.below u.h).more u.h.size) (by omega))
      have K4 := Lib.hid (fun (u : Kept wr.heap.size wr) => rCapacity_ok CA cc C m.cr u.val ((f.sC.below u.h).more u.h.size) (by omega))
      rw [hut] at K1
      rw [huc] at K2
      rw [hct] at K3
      rw [hcc] at K4
      clear hut huc hct hcc f hwl hll hTl hCl
      rw [hs2]
      rw [hs2] at q0 q1
      by_cases hA : ct ≤ (ut : Int)
      · have qa : decide (ct ≤ (ut : Int)) = true := decide_eq_true hA
        have HE : Hid (r = false) := Lib.hid (by
          rw [HR.out]
          cases e : M.fre (M.fullW T C ws m) (M.wkN m) start with
          | false => rfl
          | true => have h2 := M.fre_iff.1 e s (by omega) (by omega); rw [HFW.out, qa, Bool.true_or] at h2; cases h2)
        clear HFW
        go_wp2_with fail
        refine wp_region_kept wr.heap.size wr (by kernel_rfl) (by kernel_rfl) (Below.refl _ _) ?_
        repeat (go_big_quiet_step (first | (go_at_call 102; first | with_reducible exact Kept.same (K1.out _) | with_reducible exact Kept.same (K2.out _)) | (go_at_call 40; first | with_reducible exact Kept.same (K3.out _) | with_reducible exact Kept.same (K4.out _))))
        refine wpQuiet_nil ?_
        rintro w5 ⟨⟨w5x, hb5⟩, hw5⟩
        dsimp only at hw5
        subst hw5
        clear u1 u2 u3 u4 u5 u6
        go_wp2_with fail
        go_ret
        exact ⟨by rw [HE.out]; rfl, after_ hB hb5⟩
      have qa : decide (ct ≤ (ut : Int)) = false := decide_eq_false hA
      clear hA
      by_cases hC : cc2 ≤ (uc : Int)
      · have qc : decide (cc2 ≤ (uc : Int)) = true := decide_eq_true hC
        clear hC
        have HE : Hid (r = false) := Lib.hid (by
          rw [HR.out]
          cases e : M.fre (M.fullW T C ws m) (M.wkN m) start with
          | false => rfl
          | true => have h2 := M.fre_iff.1 e s (by omega) (by omega); rw [HFW.out, qa, qc, Bool.or_true] at h2; cases h2)
        clear HFW
        go_wp2_with fail
        refine wp_region_kept wr.heap.size wr (by kernel_rfl) (by kernel_rfl) (Below.refl _ _) ?_
        repeat (go_big_quiet_step (first | (go_at_call 102; first | with_reducible exact Kept.same (K1.out _) | with_reducible exact Kept.same (K2.out _)) | (go_at_call 40; first | with_reducible exact Kept.same (K3.out _) | with_reducible exact Kept.same (K4.out _))))
        refine wpQuiet_nil ?_
        rintro w5 ⟨⟨w5x, hb5⟩, hw5⟩
        dsimp only at hw5
        subst hw5
        clear u1 u2 u3 u4 u5 u6
        go_wp2_with fail
        go_ret
        exact ⟨by rw [HE.out]; rfl, after_ hB hb5⟩
      have qc : decide (cc2 ≤ (uc : Int)) = false := decide_eq_false hC
      have HNX : Hid (∀ j, j < k + 1 → M.fullW T C ws m (start + j) = false) := Lib.hid (fun j hj => by
        by_cases e : j = k
        · subst e; rw [hs2, HFW.out, qa, qc]; rfl
        · exact HN.out j (by omega))
      clear HFW HN hC
      go_wp2_with fail
      refine wp_region_kept wr.heap.size wr (by kernel_rfl) (by kernel_rfl) (Below.refl _ _) ?_
      repeat (go_big_quiet_step (first | (go_at_call 102; first | with_reducible exact Kept.same (K1.out _) | with_reducible exact Kept.same (K2.out _)) | (go_at_call 40; first | with_reducible exact Kept.same (K3.out _) | with_reducible exact Kept.same (K4.out _))))
      refine wpQuiet_nil ?_
      rintro w5 ⟨⟨w5x, hb5⟩, hw5⟩
      dsimp only at hw5
      subst hw5
      clear u1 u2 u3 u4 u5 u6
      have x5 := x0.below hb5
      have B5 := after_ hB hb5
      go_wp2_with fail
      go_roundw
      case rel => exact ⟨k + 1, hlt, by go_num, B5, x5, HNX⟩
      case measure => simp [intOf]; omega
    · obtain hkn : k = M.wkN m := by omega
      have HE : Hid (r = true) := Lib.hid (by
        rw [HR.out, M.fre_iff]
        intro q h1 h2
        have := HN.out (q - start) (by omega)
        rw [show start + (q - start) = q by omega] at this
        exact this)
      have q0 : decide (((start + k : Nat) : Int) < (start : Int) + m.wk) = false := decide_eq_false (by omega)
      have q1 : ¬ ((start + k : Nat) : Int) < (start : Int) + m.wk := by omega
      go_wp2_with fail
      go_ret
      exact ⟨by rw [HE.out]; rfl, hB⟩
end Go.Proofs.YtpkepgcmifdpfaaGreatDoor
end

section
namespace Go.Proofs.YtpkepgcmifdpfaaGreatDoor
open Go Go.RowKit
set_option maxRecDepth 100000
namespace M
theorem take_good {l : List Mv} {T C : List Si} (h : twOk l T C) (ha : twAll l T C) (k : Nat) : twOk (l.take k) T C ∧ twAll (l.take k) T C := ⟨twOk_sub h (List.take_sublist _ _), twAll_sub ha (List.take_sublist _ _)⟩
theorem wks_facts {l : List Mv} {T C : List Si} (h : twOk l T C) (ha : twAll l T C) {k : Nat} (hk : k < l.length) :
    (wks T C (l.take k)).length = k ∧ (∀ j (hj : j < (wks T C (l.take k)).length) (hl : j < l.length), (wks T C (l.take k))[j].1 = l[j]) ∧ (∀ x ∈ wks T C (l.take k), x.2 ≤ 1000000 ∧ wkN x.1 ≤ 52) ∧ mvOk l[k] = true ∧ span (wks T C (l.take k)) ≤ 1000000 ∧ fre (fullW T C (wks T C (l.take k)) l[k]) (wkN l[k]) (span (wks T C (l.take k))) = true ∧ wks T C (l.take (k + 1)) = wks T C (l.take k) ++ [(l[k], est (fullW T C (wks T C (l.take k)) l[k]) (wkN l[k]) (span (wks T C (l.take k))))] := by
  obtain ⟨g1, g2⟩ := take_good h ha k
  have hlen := wks_len g1 g2
  have hinv := wks_inv (pcap_all g1 g2)
  have hsp := span_le g1 g2
  have hl512 := h.1.1
  rw [List.length_take] at hlen hsp
  refine ⟨by omega, fun j hj hl => ?_, fun x hx => ?_, h.1.2.1 _ (List.getElem_mem hk), by omega, ?_, ?_⟩
  · have h1 : ((wks T C (l.take k)).map (·.1))[j]? = (l.take k)[j]? := by rw [hinv.2.1]
    rw [List.getElem?_map, List.getElem?_eq_getElem hj, List.getElem?_take_of_lt (by omega), List.getElem?_eq_getElem hl] at h1
    exact Option.some.inj h1
  · have h1 := hinv.1 x hx
    have h2 : x.1 ∈ l.take k := by rw [← hinv.2.1]; exact List.mem_map.2 ⟨x, hx, rfl⟩
    have h3 := (wkN_le (g1.1.2.1 _ h2)).2.1
    exact ⟨by omega, h3⟩
  · exact fre_span (pcap_all h ha _ (List.getElem_mem hk)) hinv.1 _
  · rw [List.take_succ_eq_append_getElem hk, wks_snoc]; rfl
end M
set_option maxHeartbeats 32000000 in
theorem rWorks_ok (LA TA CA : Option Addr) (lc tc cc : Nat) (l : List Mv) (T C : List Si) (w : World) (hL : Sl 6 mvcell w w.heap.size LA l) (hT : Sl 2 sicell w w.heap.size TA T) (hC : Sl 2 sicell w w.heap.size CA C) (h : M.twOk l T C) (ha : M.twAll l T C) :
    Calls Tryz.prog 46 #[.slice LA l.length lc, .slice TA T.length tc, .slice CA C.length cc] w fun e w' => (∃ A c, e = .returned (.tuple #[.slice A (M.wks T C l).length c, .int .i64 0]) ∧ Sl 3 wcell w' w'.heap.size A (M.wks T C l)) ∧ Below w.heap.size w w' := by
  obtain ⟨iw, hiw, hzw0, hzw1, hzw2⟩ := info_parts workInfo
  have Hiw := Lib.hid hiw; have Hzw0 := Lib.hid hzw0; have Hzw1 := Lib.hid hzw1; have Hzw2 := Lib.hid hzw2
  clear hiw hzw0 hzw1 hzw2
  have hTl := M.siLen h.2.1
  have hCl := M.siLen h.2.2
  have hl512 := h.1.1
  have kE := rError46_ok LA TA CA lc tc cc l T C w hL hT hC (by omega) (by omega) (by omega) 0 (.inl ⟨h, ha, rfl⟩)
  have HG := Lib.hid h
  have HA := Lib.hid ha
  have HL := Lib.hid hL
  have HT := Lib.hid hT
  have HC := Lib.hid hC
  clear h ha hL hT hC
  go_enter Tryz.func46, Tryz.ntmps46
  go_wp2_with fail
  refine kE.mono ?_
  rintro e w1 ⟨rfl, hb1⟩
  clear kE
  go_wp2_with fail
  go_loopw [9, 10, 11] (fun v i _ wr => ∃ k : Nat, k ≤ l.length ∧ i = .int .i64 k ∧ Below w.heap.size w wr ∧ wr.ownsRow w.heap.size 127 3 v (M.wks T C (l.take k)).length (flat 3 wcell (M.wks T C (l.take k)))) (fun _ i _ _ => l.length - (intOf i).toNat)
  case atStart => exact ⟨0, Nat.zero_le _, rfl, hb1, own_nil _ _ _ _ _⟩
  case round =>
    clear hb1
    obtain ⟨k, hk, rfl, hB, hown⟩ := hrel
    by_cases hlt : k < l.length
    · obtain ⟨f1, f2, f3, f4, f5, f6, f7⟩ := M.wks_facts HG.out HA.out hlt
      have y0 : (0 : Int) ≤ (k : Int) := by omega
      have y1 : (k : Int) < (l.length : Int) := by omega
      have q0 : decide ((k : Int) < (l.length : Int)) = true := decide_eq_true y1
      obtain ⟨m, hm⟩ : ∃ m, l[k] = m := ⟨_, rfl⟩
      rw [hm] at f4 f6 f7
      generalize hws : M.wks T C (l.take k) = ws at *
      obtain rfl : k = ws.length := f1.symm
      obtain ⟨wA, wC, rfl, -⟩ := own_slice (by decide) hown
      obtain ⟨es, hes⟩ : ∃ es, M.est (M.fullW T C ws m) (M.wkN m) (M.span ws) = es := ⟨_, rfl⟩
      obtain ⟨e1, e2, e3⟩ := M.est_spec f6
      rw [hes] at e1 e2 e3 f7
      have F2 := Lib.hid f2; have F3 := Lib.hid f3; have F4 := Lib.hid f4; have F7 := Lib.hid f7; have HM := Lib.hid hm
      have E2 := Lib.hid e2; have E3 := Lib.hid e3
      have hes2 : es ≤ 1000000 := by omega
      clear f1 f2 f3 f4 f5 f6 f7 e1 e2 e3 hes hws hm
      go_wp2_with fail
      clear q0
      go_loopw [11] (fun s wq => ∃ j : Nat, j ≤ es ∧ s = .int .i64 j ∧ Below w.heap.size w wq ∧ wq.ownsRow w.heap.size 127 3 (.slice wA ws.length wC) ws.length (flat 3 wcell ws)) (fun s _ => es + 1 - (intOf s).toNat)
      case atStart => exact ⟨0, Nat.zero_le _, rfl, hB, hown⟩
      case round =>
        clear hB hown
        obtain ⟨j, hj, rfl, hB, hown⟩ := hrel
        have fi : FrI wr LA wA TA CA l ws T C := ⟨(HL.out.below hB).more hB.size, Sl.of_own (by decide) hown, (HT.out.below hB).more hB.size, (HC.out.below hB).more hB.size, hl512, hTl, hCl, hlt, fun q hq => F2.out q hq (by omega), F3.out⟩
        by_cases hje : j < es
        · have kF := rFree_ok LA wA TA CA lc wC tc cc l ws T C j wr fi (by omega) m HM.out.symm F4.out false (E3.out j hje).symm
          clear fi
          go_wp2_with fail
          refine kF.mono ?_
          rintro e w3 ⟨rfl, hb3⟩
          clear kF
          go_wp2_with fail
          go_roundw
          case rel => exact ⟨j + 1, hje, by go_num, after_ hB hb3, own_below hown hb3⟩
          case measure => simp [intOf]; omega
        · obtain rfl : j = es := by omega
          have kF := rFree_ok LA wA TA CA lc wC tc cc l ws T C j wr fi hes2 m HM.out.symm F4.out true E2.out.symm
          clear fi
          go_wp2_with fail
          refine kF.mono ?_
          rintro e w3 ⟨rfl, hb3⟩
          clear kF
          have B3 := after_ hB hb3
          have hown3 := own_below hown hb3
          obtain ⟨la, hla, hlb, a0, a1, a2, a3, a4, a5⟩ := ((HL.out.below B3).more B3.size).mv6 hlt
          rw [HM.out] at a0 a5
          have hwk := (M.wkN_le F4.out)
          obtain ⟨mw, hmw⟩ : ∃ x, m.wk = x := ⟨_, rfl⟩
          rw [hmw] at a5
          have HCS : Hid ([Value.int .i64 m.st, .int .i64 (j : Int), .int .i64 ((j : Int) + mw)] = (List.range 3).map (wcell (m, j))) := Lib.hid (by
            rw [← hmw, ← hwk.2.2, show (j : Int) + (M.wkN m : Int) = ((j + M.wkN m : Nat) : Int) by omega]; rfl)
          have hmw2 : 1 ≤ mw ∧ mw ≤ 52 := by omega
          obtain ⟨hmw3, hmw4⟩ := hmw2
          clear hmw hwk a1 a2 a3 a4
          subst hla
          clear hB hown
          go_wp2_with fail
          refine wp_region_kept_tail1 14 w3.heap.size w3 _ (by kernel_rfl) rfl rfl (by kernel_rfl) (by kernel_rfl) (by kernel_rfl) (fun _ _ _ _ h => h) (Below.refl _ _) ?_
          simp only [List.take_succ_cons, List.take_zero, List.drop_succ_cons, List.drop_zero]
          repeat (go_big_quiet_step ((fail)))
          refine wpQuiet_nil ?_
          rintro w4 ⟨⟨_, hb4⟩, rfl⟩
          clear a0 a5
          replace hown3 := own_below hown3 hb4
          replace B3 := after_ B3 hb4
          go_wp2_with (at_builtin; refine wpList_push2 (w0 := w) (cell := wcell) rfl _ _ 85 rfl w.heap.size w.heap.size 127 iw _ 24 Tryz.underlying85 Hiw.out Hzw0.out Hzw1.out Hzw2.out rfl (by decide) _ ws.length ws (m, j) rfl hown3 _ _ HCS.out 1 rfl (w_one _) (by unfold maxLen; omega) (by omega) B3.size (Nat.le_refl _) B3 ?_; intro v9 w9 hown9 hb9 hg9 hl9)
          go_roundw
          case rel => exact ⟨ws.length + 1, hlt, by go_num, hb9, by rw [F7.out, List.length_append]; exact hown9⟩
          case measure => simp [intOf]; omega
    · obtain rfl : k = l.length := by omega
      have q0 : decide ((l.length : Int) < (l.length : Int)) = false := decide_eq_false (by omega)
      rw [List.take_length] at hown
      obtain ⟨wA, wC, rfl, hsl⟩ := own_slice (by decide) hown
      go_wp2_with fail
      go_ret2
      exact ⟨⟨_, _, rfl, hsl⟩, hB⟩
end Go.Proofs.YtpkepgcmifdpfaaGreatDoor
end

section
namespace Go.Proofs.YtpkepgcmifdpfaaGreatDoor
open Go Go.RowKit
set_option maxRecDepth 100000
section
variable {P : Program} {md : Region.Mode} {ops : Array Oper} {Q : Exit → Act → World → Prop} {S : Array Bool → World → Prop}
theorem wpAnyL_skip {i q : Nat} {oi oq : Oper} {fuel : Nat} {listed : Array Bool} {a : Act} {w : World} (hi : ops[i]? = some oi)
    (hs : Region.noSelect ops = true) (hf : Region.free md ops listed i = true) (hr : (Region.ready md ops listed).contains i = true)
    (hQ : ∀ c a w, Q (.panic c) (a.put oi.dst undef) w → Q (.panic c) a w) (hoq : ops[q]? = some oq) (hwait : (oq.after.any fun e => Region.binds md e && decide (e.on = i)) = true) (hqi : q ≠ i)
    (hind : ∀ ls w, S (ls.setIfInBounds i true) w ↔ S ls w) (hlq : listed.getD q true = false)
    (hw : Region.wanted oi (yielded ops a.tmps) = false) (hS : S listed w)
    (h : wpAnyL P md ops Q S fuel (listed.setIfInBounds i true) (a.put oi.dst undef) w) : wpAnyL P md ops Q S (fuel + 1) listed a w :=
  wpAnyL_first (Sx := fun _ => True) hi (Region.noSelect_spec hs) hQ hoq (by
    obtain ⟨e, he, h2⟩ := Array.any_eq_true'.1 hwait
    rw [Bool.and_eq_true, decide_eq_true_eq] at h2
    exact ⟨e, he, h2.1, h2.2⟩) hqi hind (fun _ _ _ _ => trivial) fuel listed a w (Region.free_spec hi hf) (by simpa using hr) hlq (.inr ⟨hw, rfl⟩) hS h
theorem wpOp_skip {i : Nat} {o : Oper} {K : Act → World → Prop} {a : Act} {w : World} (hi : ops[i]? = some o) (hw : Region.wanted o (yielded ops a.tmps) = false) (h : K (a.put o.dst undef) w) : wpOp P ops Q i K a w := by
  unfold Go.wpOp
  simp only [hi]
  rw [if_neg (by rw [hw]; decide)]
  exact h
end
theorem rOf_sl (a : TrA) (t : Tr) (SA : Option Addr) (sc : Nat) (ss : List Int) (w : World) (hm : TrM w a t) (hl : t.l.length ≤ 512) (hS : Sl 1 icell w w.heap.size SA ss) (hs : ss.length ≤ 1000000) :
    Calls Tryz.prog 38 #[trV a t, .slice SA ss.length sc] w fun e w' => ∃ A c, e = .returned (.slice A (M.pick t.l ss).length c) ∧ Sl 6 mvcell w' w'.heap.size A (M.pick t.l ss) ∧ Below w.heap.size w w' := by
  refine (rOf_ok a t SA sc ss w hm hl hS hs).mono ?_
  rintro e w' ⟨⟨v, rfl, hown⟩, hb⟩
  obtain ⟨A, c, rfl, hsl⟩ := own_slice (by decide) hown
  exact ⟨A, c, rfl, hsl, hb⟩
set_option maxHeartbeats 32000000 in
theorem rLength48_ok (a : TrA) (t : Tr) (SA : Option Addr) (sc : Nat) (ss : List Int) (w : World) (hm : TrM w a t) (hg : M.trGood t) (hS : Sl 1 icell w w.heap.size SA ss) (hs : ss.length ≤ 1000000) :
    Calls Tryz.prog 23 #[trV a t, .slice SA ss.length sc] w fun e w' => e = .returned (.int .i64 (M.phLen t ss : Nat)) ∧ Below w.heap.size w w' := by
  obtain ⟨X, HX, x0, hB, -⟩ := boxes1 w (trc a t) 28
  have hX := HX.out
  have Bd : Below w.heap.size w X.drew := hB.drew
  have y0 : Box X.drew w.heap.size (trc a t) 28 := x0
  have td := hm.next Bd
  have sd := (hS.below Bd).more Bd.size
  have HG := Lib.hid hg
  have K0 := y0.c6
  have K1 := x0.c6
  have kA : ∀ wa, Below X.drew.heap.size X.drew wa → _ := fun wa hba => (y0.below hba).c6
  have hl512 := hg.1.1.1
  have hwl : Hid ((M.wks t.T t.C (M.pick t.l ss)).length ≤ 1000000) := Lib.hid (by rw [M.wks_len (M.pick_good hg ss).1 (M.pick_good hg ss).2]; have := M.pick_len hg ss; omega)
  clear hg hm hS
  go_enter Tryz.func23, Tryz.ntmps23
  go_wp2_with fail
  go_region_held3 (fun w' => w'.cell? ⟨w.heap.size, 0, none⟩ = some (.slice a.P t.ps.length a.p) ∧ w'.cell? ⟨w.heap.size, 1, none⟩ = some (.slice a.L t.l.length a.l) ∧ w'.cell? ⟨w.heap.size, 2, none⟩ = some (.slice a.T t.T.length a.t) ∧ w'.cell? ⟨w.heap.size, 3, none⟩ = some (.slice a.C t.C.length a.c) ∧ w'.cell? ⟨w.heap.size, 4, none⟩ = some (.int .i64 t.lm) ∧ w'.cell? ⟨w.heap.size, 5, none⟩ = some (.int .i64 t.lw)) (first | with_reducible exact K0 | with_reducible exact K1 | with_reducible exact kA _ (by assumption))
    (first
      | (go_at_call 38; ((with_reducible refine (rOf_sl a t SA sc ss _ td hl512 sd hs).mono ?_); rintro e wa ⟨A2, c2, rfl, hS2, hba⟩; have ta := td.next hba))
      | (go_at_call 46; ((with_reducible refine (rWorks_ok A2 a.T a.C c2 a.t a.c (M.pick t.l ss) t.T t.C _ hS2 ta.T ta.C (M.pick_good HG.out ss).1 (M.pick_good HG.out ss).2).mono ?_); rintro e wb ⟨⟨A3, c3, rfl, hS3⟩, hbb⟩; have hbB := after_ hba hbb)))
  all_goals
    have kL := rLength_ok A3 c3 _ wb hS3 hwl.out
    go_wp2_with fail
    refine kL.mono ?_
    rintro e wc ⟨rfl, rfl⟩
    go_wp2_with fail
    go_ret
    exact ⟨rfl, after_ Bd hbB⟩
set_option maxHeartbeats 32000000 in
theorem rSmall48_ok (a : TrA) (t : Tr) (SA : Option Addr) (sc : Nat) (ss : List Int) (w : World) (hm : TrM w a t) (hg : M.trGood t) (hS : Sl 1 icell w w.heap.size SA ss) (hs : ss.length ≤ 1000000) :
    Calls Tryz.prog 15 #[trV a t, .slice SA ss.length sc] w fun e w' => e = .returned (.bool (M.small t ss)) ∧ Below w.heap.size w w' := by
  obtain ⟨X, HX, x0, hB, -⟩ := boxes1 w (trc a t) 28
  have hX := HX.out
  have Bd : Below w.heap.size w X.drew := hB.drew
  have y0 : Box X.drew w.heap.size (trc a t) 28 := x0
  have td := hm.next Bd
  have sd := (hS.below Bd).more Bd.size
  have HG := Lib.hid hg
  have K0 := y0.c6
  have K1 := x0.c6
  have kA : ∀ wa, Below X.drew.heap.size X.drew wa → _ := fun wa hba => (y0.below hba).c6
  have hl512 := hg.1.1.1
  obtain ⟨r, hr⟩ : ∃ r, M.small t ss = r := ⟨_, rfl⟩
  rw [hr]
  have HR := Lib.hid hr
  clear hr hg hm hS
  by_cases hlm : ((M.pick t.l ss).length : Int) ≤ t.lm
  · have q0 : decide (((M.pick t.l ss).length : Int) ≤ t.lm) = true := decide_eq_true hlm
    have HE : Hid (decide ((M.phLen t ss : Int) ≤ t.lw) = r) := Lib.hid (by rw [← HR.out]; unfold M.small; rw [q0]; rfl)
    clear HR hlm
    go_enter Tryz.func15, Tryz.ntmps15
    go_wp2_with fail
    go_region_held3 (fun w' => w'.cell? ⟨w.heap.size, 0, none⟩ = some (.slice a.P t.ps.length a.p) ∧ w'.cell? ⟨w.heap.size, 1, none⟩ = some (.slice a.L t.l.length a.l) ∧ w'.cell? ⟨w.heap.size, 2, none⟩ = some (.slice a.T t.T.length a.t) ∧ w'.cell? ⟨w.heap.size, 3, none⟩ = some (.slice a.C t.C.length a.c) ∧ w'.cell? ⟨w.heap.size, 4, none⟩ = some (.int .i64 t.lm) ∧ w'.cell? ⟨w.heap.size, 5, none⟩ = some (.int .i64 t.lw)) (first | with_reducible exact K0 | with_reducible exact K1 | with_reducible exact kA _ (by assumption))
      (first
        | (go_at_call 38; ((with_reducible refine (rOf_sl a t SA sc ss _ td hl512 sd hs).mono ?_); rintro e wa ⟨A2, c2, rfl, hS2, hba⟩; have ta := td.next hba))
        | (go_at_call 23; ((with_reducible refine (rLength48_ok a t SA sc ss _ ta HG.out ((sd.below hba).more hba.size) hs).mono ?_); rintro e wb ⟨rfl, hbb⟩; have hbB := after_ hba hbb)))
    all_goals
      go_wp2_with fail
      go_ret
      exact ⟨by rw [← HE.out]; rfl, after_ Bd hbB⟩
  · have q0 : decide (((M.pick t.l ss).length : Int) ≤ t.lm) = false := decide_eq_false hlm
    have HE : Hid (r = false) := Lib.hid (by rw [← HR.out]; unfold M.small; rw [q0]; rfl)
    clear HR hlm
    go_enter Tryz.func15, Tryz.ntmps15
    go_wp2_with fail
    refine wp_region_noPanic ?_
    refine wp_region_any (by kernel_rfl) ?_
    refine wpAny_of_L (S := (fun (_ : Array Bool) (w' : World) => w'.cell? ⟨w.heap.size, 0, none⟩ = some (.slice a.P t.ps.length a.p) ∧ w'.cell? ⟨w.heap.size, 1, none⟩ = some (.slice a.L t.l.length a.l) ∧ w'.cell? ⟨w.heap.size, 2, none⟩ = some (.slice a.T t.T.length a.t) ∧ w'.cell? ⟨w.heap.size, 3, none⟩ = some (.slice a.C t.C.length a.c) ∧ w'.cell? ⟨w.heap.size, 4, none⟩ = some (.int .i64 t.lm) ∧ w'.cell? ⟨w.heap.size, 5, none⟩ = some (.int .i64 t.lw))) _ _ _ _ ?_
    change wpAnyL Tryz.prog _ _ _ _ _ _ _ X.drew
    refine wpAnyL_take (i := 0) (q := 2) (v := trV a t) (fun w' => w'.cell? ⟨w.heap.size, 0, none⟩ = some (.slice a.P t.ps.length a.p) ∧ w'.cell? ⟨w.heap.size, 1, none⟩ = some (.slice a.L t.l.length a.l) ∧ w'.cell? ⟨w.heap.size, 2, none⟩ = some (.slice a.T t.T.length a.t) ∧ w'.cell? ⟨w.heap.size, 3, none⟩ = some (.slice a.C t.C.length a.c) ∧ w'.cell? ⟨w.heap.size, 4, none⟩ = some (.int .i64 t.lm) ∧ w'.cell? ⟨w.heap.size, 5, none⟩ = some (.int .i64 t.lw)) rfl (by kernel_rfl) (by kernel_rfl) (by kernel_rfl) (fun c a w h => h) rfl (by kernel_rfl) (by decide) (fun ls w => by simp) (fun ls w h1 h2 => h2) rfl rfl (fun w ⟨h0, h1, h2, h3, h4, h5⟩ => by go_simp) K0 ?_
    try simp only [Act.put]
    refine wpAnyL_take (i := 1) (q := 2) (v := .slice SA ss.length sc) (fun w' => True) rfl (by kernel_rfl) (by kernel_rfl) (by kernel_rfl) (fun c a w h => h) rfl (by kernel_rfl) (by decide) (fun ls w => by simp) (fun ls w h1 h2 => trivial) rfl rfl (fun w h => by go_simp) K0 ?_
    try simp only [Act.put]
    refine wpAnyL_take (i := 4) (q := 5) (v := .pointer (some ⟨w.heap.size, 4, none⟩)) (fun w' => True) rfl (by kernel_rfl) (by kernel_rfl) (by kernel_rfl) (fun c a w h => h) rfl (by kernel_rfl) (by decide) (fun ls w => by simp) (fun ls w h1 h2 => trivial) rfl rfl (fun w h => by go_simp) K0 ?_
    try simp only [Act.put]
    refine wpAnyL_take (i := 5) (q := 6) (v := .pointer (some ⟨w.heap.size, 4, none⟩)) (fun w' => True) rfl (by kernel_rfl) (by kernel_rfl) (by kernel_rfl) (fun c a w h => h) rfl (by kernel_rfl) (by decide) (fun ls w => by simp) (fun ls w h1 h2 => trivial) rfl rfl (fun w h => by go_simp) K0 ?_
    try simp only [Act.put]
    refine wpAnyL_take (i := 6) (q := 7) (v := .int .i64 t.lm) (fun w' => w'.cell? ⟨w.heap.size, 4, none⟩ = some (.int .i64 t.lm)) rfl (by kernel_rfl) (by kernel_rfl) (by kernel_rfl) (fun c a w h => h) rfl (by kernel_rfl) (by decide) (fun ls w => by simp) (fun ls w h1 h2 => h2.2.2.2.2.1) rfl rfl (fun w h => by go_simp) K0 ?_
    try simp only [Act.put]
    refine wpAnyL_one (i := 2) (by kernel_rfl) ?_
    refine wpOp_K (fun K hK => ?_)
    refine wpOp_one rfl rfl ?_
    go_simp
    refine (rOf_sl a t SA sc ss _ td hl512 sd hs).mono ?_
    rintro e wa ⟨A2, c2, rfl, hS2, hba⟩
    have ST := kA wa hba
    refine hK _ _ ⟨ST, ?_⟩
    clear hK K
    try simp only [Act.put]
    refine wpAnyL_one (i := 3) (by kernel_rfl) ?_
    refine wpOp_K (fun K hK => ?_)
    refine wpOp_one rfl rfl ?_
    go_simp
    refine hK _ _ ⟨ST, ?_⟩
    clear hK K
    try simp only [Act.put]
    refine wpAnyL_one (i := 7) (by kernel_rfl) ?_
    refine wpOp_K (fun K hK => ?_)
    refine wpOp_one rfl rfl ?_
    go_simp
    refine hK _ _ ⟨ST, ?_⟩
    clear hK K
    try simp only [Act.put]
    refine wpAnyL_one (i := 8) (by kernel_rfl) ?_
    refine wpOp_K (fun K hK => ?_)
    refine wpOp_one rfl rfl ?_
    go_simp
    refine hK _ _ ⟨ST, ?_⟩
    clear hK K
    try simp only [Act.put]
    refine wpAnyL_skip (i := 9) (q := 11) rfl (by kernel_rfl) (by kernel_rfl) (by kernel_rfl) (fun c a w h => h) rfl (by kernel_rfl) (by decide) (fun ls w => by simp) rfl rfl ST ?_
    try simp only [Act.put]
    refine wpAnyL_skip (i := 10) (q := 11) rfl (by kernel_rfl) (by kernel_rfl) (by kernel_rfl) (fun c a w h => h) rfl (by kernel_rfl) (by decide) (fun ls w => by simp) rfl rfl ST ?_
    try simp only [Act.put]
    refine wpAnyL_skip (i := 12) (q := 13) rfl (by kernel_rfl) (by kernel_rfl) (by kernel_rfl) (fun c a w h => h) rfl (by kernel_rfl) (by decide) (fun ls w => by simp) rfl rfl ST ?_
    try simp only [Act.put]
    refine wpAnyL_skip (i := 13) (q := 14) rfl (by kernel_rfl) (by kernel_rfl) (by kernel_rfl) (fun c a w h => h) rfl (by kernel_rfl) (by decide) (fun ls w => by simp) rfl rfl ST ?_
    try simp only [Act.put]
    refine wpAnyL_skip (i := 14) (q := 15) rfl (by kernel_rfl) (by kernel_rfl) (by kernel_rfl) (fun c a w h => h) rfl (by kernel_rfl) (by decide) (fun ls w => by simp) rfl rfl ST ?_
    try simp only [Act.put]
    refine wpAnyL_one (i := 11) (by kernel_rfl) ?_
    refine wpOp_K (fun K hK => ?_)
    refine wpOp_skip rfl rfl ?_
    refine hK _ _ ⟨ST, ?_⟩
    clear hK K
    try simp only [Act.put]
    refine wpAnyL_one (i := 15) (by kernel_rfl) ?_
    refine wpOp_K (fun K hK => ?_)
    refine wpOp_skip rfl rfl ?_
    refine hK _ _ ⟨ST, ?_⟩
    clear hK K
    try simp only [Act.put]
    refine wpAnyL_one (i := 16) (by kernel_rfl) ?_
    refine wpOp_K (fun K hK => ?_)
    refine wpOp_one rfl rfl ?_
    go_simp
    refine hK _ _ ⟨ST, ?_⟩
    clear hK K
    try simp only [Act.put]
    refine wpAnyL_one (i := 17) (by kernel_rfl) ?_
    refine wpOp_K (fun K hK => ?_)
    refine wpOp_one rfl rfl ?_
    go_simp
    refine hK _ _ ⟨ST, ?_⟩
    clear hK K
    try simp only [Act.put]
    refine wpAnyL_done (by kernel_rfl) (NoPanic.normal ?_) _
    go_wp2_with fail
    go_ret
    exact ⟨by rw [HE.out]; rfl, after_ Bd hba⟩
end Go.Proofs.YtpkepgcmifdpfaaGreatDoor
end

section
namespace Go.Proofs.YtpkepgcmifdpfaaGreatDoor
open Go Go.RowKit
set_option maxRecDepth 100000
namespace M
end M
end Go.Proofs.YtpkepgcmifdpfaaGreatDoor
end

section
namespace Go.Proofs.YtpkepgcmifdpfaaGreatDoor
open Go Go.RowKit
set_option maxRecDepth 100000
set_option maxHeartbeats 32000000 in
theorem rCheck_ok (a : TrA) (t : Tr) (OA : Option Addr) (oc : Nat) (os : List SLc) (w : World) (hm : TrM w a t) (hi : M.Ints t.ps t.l) (hO : LL w OA os) (hol : os.length ≤ 1000000) (hoi : ∀ s ∈ os, s.xs.length ≤ 1000000) :
    Calls Tryz.prog 18 #[trV a t, .slice OA os.length oc] w fun e w' => (∃ er, M.trIs t er ∧ ((er ≠ 0 ∧ e = .returned (.int .i64 er)) ∨ (er = 0 ∧ e = .returned (.int .i64 (M.phPlan t (os.map (·.xs))))))) ∧ Below w.heap.size w w' := by
  obtain ⟨X, HX, x0, hB, -⟩ := boxes1 w (trc a t) 28
  have hX := HX.out
  have tx := hm.next hB
  obtain ⟨er, her⟩ : ∃ er, M.trIs t er := by
    by_cases h1 : M.trOk t
    · by_cases h2 : t.ps.length ≤ 20000
      · by_cases h3 : M.twAll t.l t.T t.C
        · exact ⟨0, .inl ⟨h1, h2, h3, rfl⟩⟩
        · exact ⟨9, .inr (.inl ⟨h1, h2, h3, rfl⟩)⟩
      · exact ⟨7, .inr (.inr (.inl ⟨h1, by omega, rfl⟩))⟩
    · exact ⟨2, .inr (.inr (.inr ⟨h1, rfl⟩))⟩
  have kE := rError48_ok a t X tx er her
  have HER := Lib.hid her
  have HOO : Hid (os.length ≤ 1000000 ∧ ∀ s ∈ os, s.xs.length ≤ 1000000 ∧ True) := Lib.hid ⟨hol, fun s hs => ⟨hoi s hs, trivial⟩⟩
  have HTR := Lib.hid hm
  have HI := Lib.hid hi
  have hll := hm.hL
  obtain ⟨r, hr⟩ : ∃ r, M.phPlan t (os.map (·.xs)) = r := ⟨_, rfl⟩
  rw [hr]
  have HR := Lib.hid hr
  clear her hm hi hoi hr
  obtain ⟨c0, c1, c2, c3, c4, c5⟩ := x0.c6
  go_enter Tryz.func18, Tryz.ntmps18
  go_wp2_with fail
  clear hX c0 c1 c2 c3 c4 c5
  refine kE.mono ?_
  rintro e w0 ⟨rfl, hb0⟩
  clear kE
  have B0 := after_ hB hb0
  by_cases hne : er = 0
  case neg =>
    have q0 : (er == 0) = false := by simpa using hne
    have q1 : (er != 0) = true := by simpa using hne
    have HE0 := Lib.hid hne
    clear hne
    go_wp2_with fail
    go_ret
    exact ⟨⟨er, HER.out, .inl ⟨HE0.out, rfl⟩⟩, B0⟩
  subst hne
  have HG : Hid (M.trGood t) := Lib.hid (M.trIs_zero HER.out)
  have x00 := x0.below hb0
  clear x0 hB hb0
  obtain ⟨lg, hlg⟩ : ∃ lg, M.legal t.ps t.l (os.map (·.xs)) = lg := ⟨_, rfl⟩
  have HLG := Lib.hid hlg
  have kG : Hid (∀ u : Kept w0.heap.size w0, Calls Tryz.prog 41 #[.slice a.P t.ps.length a.p, .slice a.L t.l.length a.l, .slice OA os.length oc] u.val fun e w' => e = .returned (.int .i64 lg) ∧ Below u.val.heap.size u.val w') := Lib.hid (fun u => by
    have tu := (HTR.out.next B0).next u.h
    refine (rLegal_ok a.P a.p t.ps.length t.ps a.L a.l t.l OA oc os u.val rfl tu.P tu.L hll HI.out ((hO.next B0).next u.h) hol (fun s hs => (HOO.out.2 s hs).1)).mono ?_
    rintro e w' ⟨⟨er, her, hc⟩, hb⟩
    have h0 : er = 0 := by
      rcases her with ⟨-, -, h1⟩ | ⟨-, h1, -⟩ | ⟨h1, -⟩
      · exact h1
      · have := HG.out.2.1; omega
      · exact absurd HG.out.1.1 h1
    rcases hc with ⟨h1, -⟩ | ⟨-, rfl⟩
    · exact absurd h0 h1
    · exact ⟨by rw [hlg], hb⟩)
  clear hlg
  obtain ⟨c0, c1, c2, c3, c4, c5⟩ := x00.c6
  have lb := x00.lt
  go_wp2_with fail
  first
    | (refine wp_region_kept w0.heap.size w0 (by kernel_rfl) (by kernel_rfl) (Below.refl _ _) ?_
       repeat (go_big_quiet_step ((go_at_call 41; with_reducible exact Kept.calls (Nat.le_refl _) (kG.out _))))
       refine wpQuiet_nil ?_
       rintro w1 ⟨⟨w1', hb1⟩, hw1⟩
       dsimp only at hw1
       subst hw1)
    | (refine (kG.out ⟨w0, Below.refl _ _⟩).mono ?_
       rintro e w1 ⟨rfl, hb1⟩)
  clear c0 c1 c2 c3 c4 c5 kG
  have x1 := x00.below hb1
  replace hb1 := after_ B0 hb1
  clear x00
  by_cases hne : lg = 0
  case neg =>
    have q0 : (lg == 0) = false := by simpa using hne
    have q1 : (lg != 0) = true := by simpa using hne
    have HE : Hid (lg = r) := Lib.hid (by rw [← HR.out]; unfold M.phPlan; rw [HLG.out, if_pos hne])
    clear hne
    go_wp2_with fail
    go_ret
    exact ⟨⟨0, HER.out, .inr ⟨rfl, by rw [HE.out]; rfl⟩⟩, hb1⟩
  subst hne
  have HR2 : Hid ((if (os.map (·.xs)).all (fun s => !s.isEmpty) = true then (if (os.map (·.xs)).all (M.small t) = true then 0 else 490) else 2) = r) := Lib.hid (by rw [← HR.out]; unfold M.phPlan; rw [HLG.out, if_neg (show ¬ ((0 : Int) ≠ 0) by simp)])
  go_wp2_with fail
  go_loopw [7] (fun i wr => ∃ k : Nat, k ≤ os.length ∧ i = .int .i64 k ∧ Below w.heap.size w wr ∧ Box wr w.heap.size (trc a t) 28 ∧ Hid (∀ j (hj : j < os.length), j < k → os[j].xs ≠ [])) (fun i _ => os.length - (intOf i).toNat)
  case atStart => exact ⟨0, Nat.zero_le _, rfl, hb1, x1, Lib.hid (fun j _ h => absurd h (by omega))⟩
  case round =>
    obtain ⟨k, hk, rfl, hBr, x0b, HN⟩ := hrel
    clear x1
    by_cases hlt : k < os.length
    · obtain ⟨la, hla, hlb, a0⟩ := (hO.next hBr).outer.sl1 hlt
      have x0 : (0 : Int) ≤ (k : Int) := by omega
      have y0 : (k : Int) < (os.length : Int) := by omega
      have q0 : decide ((k : Int) < (os.length : Int)) = true := decide_eq_true y0
      by_cases he : os[k].xs = []
      · have HF : Hid (2 = r) := Lib.hid (by
          rw [← HR2.out, if_neg]
          intro hall
          have := List.all_eq_true.1 hall os[k].xs (List.mem_map.2 ⟨os[k], List.getElem_mem hlt, rfl⟩)
          rw [he] at this
          cases this)
        rw [he] at a0
        clear he
        generalize os[k].A = sA at *
        generalize os[k].c = scp at *
        subst hla
        go_wp2_with fail
        go_ret
        exact ⟨⟨0, HER.out, .inr ⟨rfl, by rw [← HF.out]; rfl⟩⟩, hBr⟩
      · have HE : Hid (∀ j (hj : j < os.length), j < k + 1 → os[j].xs ≠ []) := Lib.hid (fun j hj h => by
          by_cases e : j = k
          · subst e; exact he
          · exact HN.out j hj (by omega))
        have hl0 : os[k].xs.length ≠ 0 := fun e => he (List.eq_nil_of_length_eq_zero e)
        have q1 : ((os[k].xs.length : Int) == 0) = false := by simp; exact he
        clear he HN
        generalize hsn : os[k].xs.length = sn at *
        clear hsn
        generalize os[k].A = sA at *
        generalize os[k].c = scp at *
        subst hla
        go_wp2_with fail
        go_roundw
        case rel => exact ⟨k + 1, hlt, by go_num, hBr, x0b, HE⟩
        case measure => simp [intOf]; omega
    · obtain rfl : k = os.length := by omega
      have q0 : decide ((os.length : Int) < (os.length : Int)) = false := decide_eq_false (by omega)
      have HR3 : Hid ((if (os.map (·.xs)).all (M.small t) = true then 0 else 490) = r) := Lib.hid (by
        have hall : (os.map (·.xs)).all (fun s => !s.isEmpty) = true := by
          rw [List.all_eq_true]
          intro x hx
          obtain ⟨s, hs, rfl⟩ := List.mem_map.1 hx
          obtain ⟨j, hj, rfl⟩ := List.getElem_of_mem hs
          have := HN.out j hj hj
          cases e : os[j].xs with
          | nil => exact absurd e this
          | cons y ys => rfl
        exact (if_pos hall).symm.trans HR2.out)
      clear HN
      go_wp2_with fail
      go_loopw [8] (fun i wr => ∃ k : Nat, k ≤ os.length ∧ i = .int .i64 k ∧ Below w.heap.size w wr ∧ Box wr w.heap.size (trc a t) 28 ∧ Hid (∀ j (hj : j < os.length), j < k → M.small t os[j].xs = true)) (fun i _ => os.length - (intOf i).toNat)
      case atStart => exact ⟨0, Nat.zero_le _, rfl, hBr, x0b, Lib.hid (fun j _ h => absurd h (by omega))⟩
      case round =>
        clear hBr x0b
        obtain ⟨k, hk, rfl, hBr, x0b, HN⟩ := hrel
        by_cases hlt : k < os.length
        · have hLr := hO.next hBr
          obtain ⟨la, hla, hlb, a0⟩ := hLr.outer.sl1 hlt
          have x0 : (0 : Int) ≤ (k : Int) := by omega
          have y0 : (k : Int) < (os.length : Int) := by omega
          have q1 : decide ((k : Int) < (os.length : Int)) = true := decide_eq_true y0
          obtain ⟨ho1, ho2⟩ := HOO.out.2 os[k] (List.getElem_mem hlt)
          have kS := Lib.hid (fun u : Kept wr.heap.size wr => rSmall48_ok a t os[k].A os[k].c os[k].xs u.val ((HTR.out.next hBr).next u.h) HG.out (((hLr.inner _ (List.getElem_mem hlt)).below u.h).more u.h.size) ho1)
          obtain ⟨c0, c1, c2, c3, c4, c5⟩ := x0b.c6
          have hlb0 := x0b.lt
          have HF : Hid (M.small t os[k].xs = false → 490 = r) := Lib.hid (fun e => by
            rw [← HR3.out, if_neg]
            intro hall
            have := List.all_eq_true.1 hall os[k].xs (List.mem_map.2 ⟨os[k], List.getElem_mem hlt, rfl⟩)
            rw [e] at this
            cases this)
          have HT : Hid (M.small t os[k].xs = true → ∀ j (hj : j < os.length), j < k + 1 → M.small t os[j].xs = true) := Lib.hid (fun e j hj h => by
            by_cases e2 : j = k
            · subst e2; exact e
            · exact HN.out j hj (by omega))
          clear HN ho1 ho2
          generalize M.small t os[k].xs = sm at *
          generalize os[k].xs.length = sn at *
          generalize os[k].A = sA at *
          generalize os[k].c = scp at *
          subst hla
          go_wp2_with fail
          refine wp_region_kept wr.heap.size wr (by kernel_rfl) (by kernel_rfl) (Below.refl _ _) ?_
          repeat (go_big_quiet_step ((go_at_call 15; with_reducible exact Kept.calls (Nat.le_refl _) (kS.out _))))
          refine wpQuiet_nil ?_
          rintro w5 ⟨⟨w5x, hb5⟩, hw5⟩
          dsimp only at hw5
          subst hw5
          clear kS c0 c1 c2 c3 c4 c5
          have B5 := after_ hBr hb5
          have x5 := x0b.below hb5
          cases sm with
          | false =>
            have HF2 := Lib.hid (HF.out rfl)
            clear HF HT
            go_wp2_with fail
            go_ret
            exact ⟨⟨0, HER.out, .inr ⟨rfl, by rw [← HF2.out]; rfl⟩⟩, B5⟩
          | true =>
            have HT2 := Lib.hid (HT.out rfl)
            clear HF HT
            go_wp2_with fail
            go_roundw
            case rel => exact ⟨k + 1, hlt, by go_num, B5, x5, HT2⟩
            case measure => simp [intOf]; omega
        · obtain rfl : k = os.length := by omega
          have q1 : decide ((os.length : Int) < (os.length : Int)) = false := decide_eq_false (by omega)
          have HF : Hid (0 = r) := Lib.hid (by
            rw [← HR3.out, if_pos]
            rw [List.all_eq_true]
            intro x hx
            obtain ⟨s, hs, rfl⟩ := List.mem_map.1 hx
            obtain ⟨j, hj, rfl⟩ := List.getElem_of_mem hs
            exact HN.out j hj hj)
          go_wp2_with fail
          go_ret
          exact ⟨⟨0, HER.out, .inr ⟨rfl, by rw [← HF.out]; rfl⟩⟩, hBr⟩
end Go.Proofs.YtpkepgcmifdpfaaGreatDoor
end
