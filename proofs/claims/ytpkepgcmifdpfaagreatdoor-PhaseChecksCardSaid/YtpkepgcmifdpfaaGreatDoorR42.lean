/- A bundle of texts: Lp2, LpCh. -/
import Derived.Test.YtpkepgcmifdpfaaGreatDoorR39
import Derived.Test.YtpkepgcmifdpfaaGreatDoorR41
import Derived.Test.YtpkepgcmifdpfaaGreatDoorR40
import Derived.Test.YtpkepgcmifdpfaaGreatDoorR01
import Derived.Deep.RegionHeld3
section
namespace Go.Proofs.YtpkepgcmifdpfaaGreatDoor
open Go Go.RowKit
set_option maxRecDepth 100000
structure TrS (w : World) (a : TrA) (t : Tr) : Prop where
 P : Sl 5 p5cell w w.heap.size a.P t.ps
 L : Sl 6 mvcell w w.heap.size a.L t.l
 T : Sl 2 sicell w w.heap.size a.T t.T
 C : Sl 2 sicell w w.heap.size a.C t.C
 ints : M.Ints t.ps t.l
theorem M.few_len {t : Tr} (h : M.fewT t = true) : t.ps.length ≤ 30 ∧ t.l.length ≤ 8 ∧ t.T.length ≤ 8 ∧ t.C.length ≤ 8 := by
 unfold M.fewT at h
 simp only [Bool.and_eq_true, decide_eq_true_eq] at h
 omega
theorem TrS.tr {w : World} {a : TrA} {t : Tr} (h : TrS w a t) (hf : M.fewT t = true) : TrM w a t := by
 obtain ⟨-, h1, h2, h3⟩ := M.few_len hf
 exact ⟨h.P, h.L, h.T, h.C, by omega, by omega, by omega, fun p hp => ⟨(h.ints.p p hp).1, (h.ints.p p hp).2.1⟩⟩
structure LP (w W : World) (a : TrA) (t : Tr) (b : Nat) : Prop where
 bel : Below w.heap.size w W
 tab0 : Tab64 w
 tr0 : TrM w a t
 ints : M.Ints t.ps t.l
 x : Box W b (trc a t) 28
section
variable {w W W' : World} {a : TrA} {t : Tr} {b : Nat}
theorem LP.next (h : LP w W a t b) (hb : Below W.heap.size W W') : LP w W' a t b := ⟨after_ h.bel hb, h.tab0, h.tr0, h.ints, h.x.below hb⟩
theorem LP.tab (h : LP w W a t b) : Tab64 W := h.tab0.kept h.bel
theorem LP.tr (h : LP w W a t b) : TrM W a t := h.tr0.next h.bel
theorem LP.known (h : LP w W a t b) : Calls Tryz.prog 9 #[] W fun e w' => e = .returned (.bool true) ∧ Below W.heap.size W w' := known48_any W h.tab
end
namespace M
end M
end Go.Proofs.YtpkepgcmifdpfaaGreatDoor
end

section
namespace Go.Proofs.YtpkepgcmifdpfaaGreatDoor
open Go Go.RowKit
set_option maxRecDepth 100000
set_option maxHeartbeats 32000000 in
theorem chk_reg15 {Q : Exit → Act → World → Prop} {cd : Code} {dl : List Deferred} {Z0 Z2 Z3 Z4 Z5 Z7 Za Zb Zc Zd Ze Zf Zg Zh Zi Zj Zk Zl Zm Zn Zo Zp Zq Zr Zs Zt Zu Zv Zw Zx Zy Zz Z10 Z11 Z12 Z13 Z14 Z15 Z16 Z17 Z18 Z19 Z1a Z1b Z1c Z1d Z1e Z1f Z1g Z1h Z1i Z1j Z1k Z1l Z1m Z1n Z1o Z1p Z1q Z1r Z1s Z1t Z1u Z1v Z1w Z1x Z1y Z1z Z20 Z21 Z22 Z23 Z24 Z25 Z26 Z27 Z28 Z29 Z2a Z2b Z2c Z2d Z2e Z2f Z2g Z2h Z2i Z2j Z2k Z2l : Value} {la pa : Addr} {n pn lc pc i st mc qc : Nat} {MA QA : Option Addr} {ms qs : List Int} {X : World} (d0 : X.cell? (la.add (i * 3)) = some (.slice MA ms.length mc)) (d1 : X.cell? ⟨(la.add (i * 3)).block, (la.add (i * 3)).off + 1, none⟩ = some (.int .i64 (st : Nat))) (d2 : X.cell? (pa.add i) = some (.slice QA qs.length qc)) (hlb : (la.add (i * 3)).block < X.heap.size) (hpb : (pa.add i).block < X.heap.size) (hi : i < n) (hip : i < pn) (hM : Sl 1 icell X X.heap.size MA ms) (hQq : Sl 1 icell X X.heap.size QA qs) (hql : qs.length ≤ 1000) (hms : ms = M.isort qs) (hcd : (Tryz.f4.body.bind (regionOf 15)) = some cd)
    (hQ : ∀ (y57 y58 y59 y60 y61 y62 y63 y64 y65 y66 y67 y68 y69 y70 y71 y72 y73 y74 y75 y76 : Value) (wo : World) , Below X.heap.size X wo → Q .normal ⟨#[Z0,.slice (some pa) pn pc,Z2,Z3,Z4,Z5,.slice (some la) n lc,Z7,.int .i64 (st : Nat),.int .i64 (i : Nat),Za,Zb,Zc,Zd,Ze,Zf,Zg,Zh,Zi,Zj,Zk,Zl,Zm,Zn,Zo,Zp,Zq,Zr,Zs,Zt,Zu,Zv,Zw,Zx,Zy,Zz,Z10,Z11,Z12,Z13,Z14,Z15,Z16,Z17,Z18,Z19,Z1a,Z1b,Z1c,Z1d,Z1e,Z1f,Z1g,Z1h,Z1i,Z1j,Z1k,y57,y58,y59,y60,y61,y62,y63,y64,y65,y66,y67,y68,y69,y70,y71,y72,y73,y74,y75,y76,.bool false,Z26,Z27,Z28,Z29,Z2a,Z2b,Z2c,Z2d,Z2e,Z2f,Z2g,Z2h,Z2i,Z2j,Z2k,Z2l], dl⟩ wo) :
    cd.wp Tryz.prog Q ⟨#[Z0,.slice (some pa) pn pc,Z2,Z3,Z4,Z5,.slice (some la) n lc,Z7,.int .i64 (st : Nat),.int .i64 (i : Nat),Za,Zb,Zc,Zd,Ze,Zf,Zg,Zh,Zi,Zj,Zk,Zl,Zm,Zn,Zo,Zp,Zq,Zr,Zs,Zt,Zu,Zv,Zw,Zx,Zy,Zz,Z10,Z11,Z12,Z13,Z14,Z15,Z16,Z17,Z18,Z19,Z1a,Z1b,Z1c,Z1d,Z1e,Z1f,Z1g,Z1h,Z1i,Z1j,Z1k,Z1l,Z1m,Z1n,Z1o,Z1p,Z1q,Z1r,Z1s,Z1t,Z1u,Z1v,Z1w,Z1x,Z1y,Z1z,Z20,Z21,Z22,Z23,Z24,Z25,Z26,Z27,Z28,Z29,Z2a,Z2b,Z2c,Z2d,Z2e,Z2f,Z2g,Z2h,Z2i,Z2j,Z2k,Z2l], dl⟩ X := by
  rw [show (Tryz.f4.body.bind (regionOf 15)) = some (Code.region 15 _ true) from rfl] at hcd
  obtain rfl := Option.some.inj hcd
  clear hcd
  dsimp only at hQ ⊢
  have x0 : (0 : Int) ≤ (i : Int) := by omega
  have x1 : (i : Int) < (n : Int) := by omega
  have x2 : (i : Int) < (pn : Int) := by omega
  have HQ := Lib.hid hQ
  clear hQ
  have hml : ms.length ≤ 1000000 := by rw [hms, M.isort_len]; omega
  have K0 : X.drew.cell? (la.add (i * 3)) = some (.slice MA ms.length mc) ∧ X.drew.cell? ⟨(la.add (i * 3)).block, (la.add (i * 3)).off + 1, none⟩ = some (.int .i64 (st : Nat)) ∧ X.drew.cell? (pa.add i) = some (.slice QA qs.length qc) := ⟨d0, d1, d2⟩
  have K1 : X.cell? (la.add (i * 3)) = some (.slice MA ms.length mc) ∧ X.cell? ⟨(la.add (i * 3)).block, (la.add (i * 3)).off + 1, none⟩ = some (.int .i64 (st : Nat)) ∧ X.cell? (pa.add i) = some (.slice QA qs.length qc) := ⟨d0, d1, d2⟩
  have kA : ∀ wa, Below X.drew.heap.size X.drew wa → wa.cell? (la.add (i * 3)) = some (.slice MA ms.length mc) ∧ wa.cell? ⟨(la.add (i * 3)).block, (la.add (i * 3)).off + 1, none⟩ = some (.int .i64 (st : Nat)) ∧ wa.cell? (pa.add i) = some (.slice QA qs.length qc) := fun wa hb => ⟨(hb.cell hlb).trans d0, (hb.cell (p := ⟨(la.add (i * 3)).block, (la.add (i * 3)).off + 1, none⟩) hlb).trans d1, (hb.cell hpb).trans d2⟩
  have hb0 : Below X.heap.size X X.drew := (Below.refl _ X).drew
  have hMd := (hM.below hb0).more hb0.size
  have hQd := (hQq.below hb0).more hb0.size
  have qe : decide (ms = M.isort qs) = true := decide_eq_true hms
  have HMS := Lib.hid hms
  clear hms hM hQq
  refine wp_region_noPanic ?_
  go_region_held3 (fun w' => w'.cell? (la.add (i * 3)) = some (.slice MA ms.length mc) ∧ w'.cell? ⟨(la.add (i * 3)).block, (la.add (i * 3)).off + 1, none⟩ = some (.int .i64 (st : Nat)) ∧ w'.cell? (pa.add i) = some (.slice QA qs.length qc)) (first | with_reducible exact K0 | with_reducible exact K1 | with_reducible exact kA _ (by assumption))
    (first
      | (go_at_call 22; ((with_reducible refine (rSorted_ok QA qc qs _ hQd (by omega)).mono ?_); rintro e wa ⟨va, rfl, hva, hba⟩; obtain ⟨A5, c5, hve, hS5⟩ := own_slice (by decide) hva; subst hve; have hMa := (hMd.below hba).more hba.size))
      | (go_at_call 21; ((with_reducible refine (rSame_any MA A5 mc c5 ms (M.isort qs) _ hMa hS5 hml).mono ?_); rintro e wb ⟨rfl, hbb⟩; rw [qe]; have hbB := after_ hba hbb)))
  all_goals refine NoPanic.normal ?_
  all_goals exact HQ.out _ _ _ _ _ _ _ _ _ _ _ _ _ _ _ _ _ _ _ _ _ (hb0.trans (hbB.mono hb0.size))
set_option maxHeartbeats 64000000 in
theorem phaseChecks_walk (a : TrA) (t : Tr) (OA : Option Addr) (oc : Nat) (os : List SLc) (w : World) (ht : Tab64 w) (hs : TrS w a t) (hO : LL w OA os) (hOw : ∀ s ∈ os, ∀ x ∈ s.xs, M.W64 x) (hOl : os.length ≤ 9223372036854775807) :
    Calls Tryz.prog 4 #[trV a t, .slice OA os.length oc] w fun e w' => e = .returned (.bool true) ∧ Below w.heap.size w w' := by
  obtain ⟨X, HX, x0, hB, -⟩ := boxes1 w (trc a t) 28
  have hX := HX.out
  obtain ⟨c0, c1, c2, c3, c4, c5⟩ := x0.c6
  obtain ⟨f, hf⟩ : ∃ f, M.fewT t = f := ⟨_, rfl⟩
  have kF := few48_ok a t X
  rw [hf] at kF
  have HT := Lib.hid ht
  have HS := Lib.hid hs
  have HF := Lib.hid hf
  have HOW := Lib.hid hOw
  have HOL := Lib.hid hOl
  clear ht hs hf hOw hOl
  go_enter Tryz.func4, Tryz.ntmps4
  go_wp2_with fail
  clear hX c0 c1 c2 c3 c4 c5
  refine kF.mono ?_
  rintro e w1 ⟨rfl, hb1⟩
  clear kF
  have B1 := after_ hB hb1
  have kK := Lib.hid (known48_any w1 (HT.out.kept B1))
  cases f with
  | false =>
    go_wp2_with fail
    refine kK.out.mono ?_
    rintro e w2 ⟨rfl, hb2⟩
    go_wp2_with fail
    go_ret
    exact ⟨rfl, after_ B1 hb2⟩
  | true =>
  obtain ⟨r, hr⟩ : ∃ r : Bool, r = true ↔ os.length ≤ 10 ∧ ∀ s ∈ os, s.xs.length ≤ 10 := ⟨(Classical.propDecidable (os.length ≤ 10 ∧ ∀ s ∈ os, s.xs.length ≤ 10)).decide, by simp⟩
  have kS := short48_ok OA oc os w1 (hO.next B1) HOL.out r hr
  go_wp2_with fail
  refine kS.mono ?_
  rintro e w1x ⟨rfl, rfl⟩
  clear kS
  cases r with
  | false =>
    go_wp2_with fail
    refine kK.out.mono ?_
    rintro e w2 ⟨rfl, hb2⟩
    go_wp2_with fail
    go_ret
    exact ⟨rfl, after_ B1 hb2⟩
  | true =>
  obtain ⟨hol, hsl⟩ := hr.1 rfl
  have lp : LP w w1 a t w.heap.size := ⟨B1, HT.out, HS.out.tr HF.out, HS.out.ints, x0.below hb1⟩
  have ll := hO.next B1
  have hpo : PlanOk os := ⟨by omega, fun s hs => ⟨by have := hsl s hs; omega, HOW.out s hs⟩⟩
  have HPO := Lib.hid hpo
  have HSL := Lib.hid hsl
  clear x0 hb1 hB B1 HT HS kK hO hr hpo hsl
  obtain ⟨c0, c1, c2, c3, c4, c5⟩ := lp.x.c6
  go_wp2_with fail
  clear c0 c1 c2 c3 c4 c5
  obtain ⟨er, her⟩ := M.trIs_some t
  obtain ⟨pe, hpe⟩ : ∃ pe, (if er = 0 then M.phPlan t (os.map (·.xs)) else er) = pe := ⟨_, rfl⟩
  refine (rCheck_ok a t OA oc os w1 lp.tr lp.ints ll (by omega) (fun s hs => by have := HSL.out s hs; omega)).mono ?_
  rintro e w2 ⟨⟨er', her', hc⟩, hb2⟩
  obtain rfl := M.trIs_unique her' her
  obtain rfl : e = .returned (.int .i64 pe) := by
    rcases hc with ⟨h1, rfl⟩ | ⟨rfl, rfl⟩
    · rw [← hpe, if_neg h1]
    · rw [← hpe, if_pos rfl]
  replace lp := lp.next hb2
  replace ll := ll.next hb2
  clear hb2 hc her'
  obtain ⟨c0, c1, c2, c3, c4, c5⟩ := lp.x.c6
  go_wp2_with fail
  clear c0 c1 c2 c3 c4 c5
  refine (Timed_ok a t OA oc os w2 lp.tab lp.tr ll HPO.out).mono ?_
  rintro e w3 ⟨⟨er2, her', hc⟩, hb2⟩
  obtain rfl := M.trIs_unique her' her
  obtain ⟨PA, pc, ps, e3, hphl, hpt⟩ : ∃ A c ps, e = .returned (.tuple #[.slice A ps.length c, .int .i64 pe]) ∧ PHL w3 A ps ∧ ((pe ≠ 0 ∧ ps = []) ∨ (pe = 0 ∧ M.trGood t ∧ M.phPlan t (os.map (·.xs)) = 0 ∧ M.PhasesTo t (os.map (·.xs)) os.length ps)) := by
    rcases hc with ⟨h1, rfl⟩ | ⟨rfl, ⟨h1, rfl⟩ | ⟨h1, A, c, ps, rfl, h2, h3⟩⟩
    · rw [if_neg h1] at hpe
      exact ⟨none, 0, [], by rw [← hpe]; rfl, ⟨Sl.nil_, fun p hp => by cases hp⟩, .inl ⟨by rw [← hpe]; exact h1, rfl⟩⟩
    · rw [if_pos rfl] at hpe
      exact ⟨none, 0, [], by rw [← hpe]; rfl, ⟨Sl.nil_, fun p hp => by cases hp⟩, .inl ⟨by rw [← hpe]; exact h1, rfl⟩⟩
    · rw [if_pos rfl, h1] at hpe
      exact ⟨A, c, ps, by rw [← hpe], h2, .inr ⟨hpe.symm, M.trIs_zero her, h1, h3⟩⟩
  subst e3
  replace lp := lp.next hb2
  replace ll := ll.next hb2
  clear hb2 hc her'
  obtain ⟨c0, c1, c2, c3, c4, c5⟩ := lp.x.c6
  go_wp2_with fail
  clear c0 c1 c2 c3 c4 c5
  refine (Check_ok a t OA oc os w3 lp.tab lp.tr ll HPO.out).mono ?_
  rintro e w4 ⟨⟨er3, her', hc⟩, hb2⟩
  obtain rfl := M.trIs_unique her' her
  obtain rfl : e = .returned (.int .i64 pe) := by
    rcases hc with ⟨h1, rfl⟩ | ⟨rfl, rfl⟩
    · rw [← hpe, if_neg h1]
    · rw [← hpe, if_pos rfl]
  replace lp := lp.next hb2
  replace ll := ll.next hb2
  replace hphl := hphl.next hb2
  clear hb2 hc her' hpe her
  have qe : (pe == pe) = true := by simp
  have qn : (pe != pe) = false := by simp
  rcases hpt with ⟨hne, rfl⟩ | ⟨rfl, hg, hp0, hpt⟩
  · have q0 : (pe == 0) = false := by simpa using hne
    have q1 : (pe != 0) = true := by simpa using hne
    clear hne hphl
    go_wp2_with fail
    refine lp.known.mono ?_
    rintro e w5 ⟨rfl, hb5⟩
    go_wp2_with fail
    go_ret
    exact ⟨rfl, after_ lp.bel hb5⟩
  clear qe qn
  obtain ⟨hpl, hpt⟩ := hpt
  have hps : ps.length = os.length := hpl
  have HPS := Lib.hid hps
  have HPT := Lib.hid hpt
  have HG := Lib.hid hg
  have HSM : Hid (∀ s ∈ os.map (·.xs), M.small t s = true) := Lib.hid (M.phPlan_zero hp0).2.2
  have HTM : Hid (∀ k, k ≤ os.length → M.tmS t (os.map (·.xs)) k ≤ 1048576 * k) := Lib.hid (fun k hk => M.tmS_le hg (M.phPlan_zero hp0).2.2 k (by rw [List.length_map]; exact hk))
  have HT0 : Hid (M.tmS t (os.map (·.xs)) 0 = 0) := Lib.hid (M.tmS_zero _ _)
  obtain ⟨n, hn⟩ : ∃ n, os.length = n := ⟨_, rfl⟩
  have HN := Lib.hid hn
  rw [hps, hn]
  have hn10 : n ≤ 10 := by omega
  clear hpl hpt hps hg hp0 hn hol
  go_wp2_with fail
  refine wp_loop_mrg [8, 9, 51, 52, 53, 54, 55, 56, 57, 58, 59, 60, 61, 62, 63, 64, 65, 66, 67, 68, 69, 70, 71, 72, 73, 74, 75, 76, 77, 78, 79, 80, 81, 82, 83, 84, 85, 86, 87, 88, 89, 90, 91, 92] (fun mm f ds W1 => ds = [] ∧ ∃ i : Nat, f 9 = .int .i64 i ∧ f 8 = .int .i64 (M.tmS t (os.map (·.xs)) i : Nat) ∧ mm = n - i ∧ i ≤ n ∧ LP w W1 a t w.heap.size ∧ LL W1 OA os ∧ PHL W1 PA ps) n ⟨rfl, 0, rfl, by rw [HT0.out]; rfl, rfl, Nat.zero_le _, lp, ll, hphl⟩ ?_
  clear lp ll hphl
  intro c1' T1' hc2 hT2
  rintro mm f ds W1 ⟨rfl, i, hf9, hf8, rfl, hi, lp, ll, hphl⟩
  replace hc2 := hc2.out
  subst hc2
  replace hT2 := hT2.out
  subst hT2
  generalize hF : mrgF _ 0 _ _ = F
  simp only [mrg_hit, mrg_miss, mrg_end, Nat.reduceBEq, Nat.reduceAdd] at hF
  rw [hf9, hf8] at hF
  subst hF
  by_cases hlt : i < n
  · have hip : i < ps.length := by rw [HPS.out, HN.out]; exact hlt
    have hio : i < os.length := by rw [HN.out]; exact hlt
    have hpt := HPT.out i hip (by rw [List.length_map]; exact hio)
    rw [List.getElem_map] at hpt
    have hsucc := M.tmS_succ t (os.map (·.xs)) (k := i) (by rw [List.length_map]; exact hio)
    rw [List.getElem_map] at hsucc
    have htb := HTM.out (i + 1) (by omega)
    have hql := HSL.out _ (List.getElem_mem hio)
    obtain ⟨p, hps1⟩ : ∃ p, ps[i]'hip = p := ⟨_, rfl⟩
    obtain ⟨QA, qc, qs, hos1⟩ : ∃ A c xs, os[i]'hio = ⟨A, c, xs⟩ := ⟨_, _, _, rfl⟩
    rw [hps1, hos1] at hpt
    rw [hos1] at hsucc hql
    dsimp only at hpt hsucc hql
    obtain ⟨hpx, hst, hse⟩ := hpt
    obtain ⟨st, hst2⟩ : ∃ st, M.tmS t (os.map (·.xs)) i = st := ⟨_, rfl⟩
    obtain ⟨en, hen⟩ : ∃ en, M.tmS t (os.map (·.xs)) (i + 1) = en := ⟨_, rfl⟩
    obtain ⟨pl, hpl⟩ : ∃ pl, M.phLen t qs = pl := ⟨_, rfl⟩
    rw [hst2] at hst hsucc ⊢
    rw [hen] at hse hsucc htb
    rw [hpl] at hsucc
    obtain ⟨MA, mc, ms, p1, p2, rfl⟩ : ∃ A c xs s e, p = ⟨A, c, xs, s, e⟩ := ⟨_, _, _, _, _, rfl⟩
    dsimp only at hpx hst hse
    have HHPX := Lib.hid hpx
    have HEN := Lib.hid hen
    have z0 : (0 : Int) ≤ (i : Int) := by omega
    have z1 : (i : Int) < (n : Int) := by omega
    have q0 : decide ((i : Int) < (n : Int)) = true := decide_eq_true z1
    obtain ⟨la, hla, hlab, -, dd⟩ := hphl.outer.sp (by decide) hip
    obtain ⟨la', hla', -, d0, -⟩ := hphl.outer.sp (by decide) hip
    rw [hla] at hla'
    obtain rfl := Option.some.inj hla'
    obtain ⟨pa, hpa, hpab, d2⟩ := ll.outer.sl1 hio
    have hM := hphl.inner _ (List.getElem_mem hip)
    have hQ := ll.inner _ (List.getElem_mem hio)
    have d1 := dd 1 (by decide) (by decide)
    have d3 := dd 2 (by decide) (by decide)
    rw [hps1] at d0 d1 d3 hM
    rw [hos1] at d2 hQ
    simp only [phcell] at d0 d1 d3
    dsimp only at d2 hM hQ
    rw [hst] at d1
    rw [hse] at d3
    clear dd hla'
    clear hst2 hen hpx
    subst hla
    subst hpa
    go_wp2_with fail
    refine chk_reg15 d0 d1 d2 hlab hpab hlt hlt hM hQ (by omega) HHPX.out (by kernel_rfl) ?_
    intro z57 z58 z59 z60 z61 z62 z63 z64 z65 z66 z67 z68 z69 z70 z71 z72 z73 z74 z75 z76 w5 hb5
    clear d0 d1 d2 d3 hM hQ hlab hpab
    replace lp := lp.next hb5
    replace ll := ll.next hb5
    replace hphl := hphl.next hb5
    clear hb5
    obtain ⟨lx, hlx, hlab, -, dd⟩ := hphl.outer.sp (by decide) hip
    obtain ⟨la', hla', -, d0, -⟩ := hphl.outer.sp (by decide) hip
    rw [hlx] at hla'
    obtain rfl := Option.some.inj hla'
    obtain rfl := Option.some.inj hlx
    obtain ⟨px, hpx, hpab, d2⟩ := ll.outer.sl1 hio
    obtain rfl := Option.some.inj hpx
    have hM := hphl.inner _ (List.getElem_mem hip)
    have hQ := ll.inner _ (List.getElem_mem hio)
    have d1 := dd 1 (by decide) (by decide)
    have d3 := dd 2 (by decide) (by decide)
    rw [hps1] at d0 d1 d3 hM
    rw [hos1] at d2 hQ
    simp only [phcell] at d0 d1 d3
    dsimp only at d2 hM hQ
    rw [hst] at d1
    rw [hse] at d3
    clear dd hla'
    have KL := Lib.hid (fun u : Kept w5.heap.size w5 => rLength48_ok a t QA qc qs u.val (lp.tr.next u.h) HG.out ((hQ.below u.h).more u.h.size) (by omega))
    rw [hpl] at KL
    have lb := lp.x.lt
    have HEN2 : Hid ((st : Int) + (pl : Int) = (en : Int)) := Lib.hid (by omega)
    have hb9 : (st : Int) + (pl : Int) ≤ 100000000 := by omega
    clear hsucc
    obtain ⟨c0, c1, c2, c3, c4, c5⟩ := lp.x.c6
    go_wp2_with fail
    refine wp_region_kept w5.heap.size w5 (by kernel_rfl) (by kernel_rfl) (Below.refl _ _) ?_
    repeat (go_big_quiet_step ((go_at_call 23; with_reducible exact Kept.calls (Nat.le_refl _) (KL.out _))))
    refine wpQuiet_nil ?_
    rintro w6 ⟨⟨w6x, hb6⟩, hw6⟩
    dsimp only at hw6
    subst hw6
    clear KL lb
    clear c0 c1 c2 c3 c4 c5
    clear d0 d1 d2 d3 hM hQ hlab hpab
    replace lp := lp.next hb6
    replace ll := ll.next hb6
    replace hphl := hphl.next hb6
    clear hb6
    obtain ⟨lx, hlx, hlab, -, dd⟩ := hphl.outer.sp (by decide) hip
    obtain ⟨la', hla', -, d0, -⟩ := hphl.outer.sp (by decide) hip
    rw [hlx] at hla'
    obtain rfl := Option.some.inj hla'
    obtain rfl := Option.some.inj hlx
    obtain ⟨px, hpx, hpab, d2⟩ := ll.outer.sl1 hio
    obtain rfl := Option.some.inj hpx
    have hM := hphl.inner _ (List.getElem_mem hip)
    have hQ := ll.inner _ (List.getElem_mem hio)
    have d1 := dd 1 (by decide) (by decide)
    have d3 := dd 2 (by decide) (by decide)
    rw [hps1] at d0 d1 d3 hM
    rw [hos1] at d2 hQ
    simp only [phcell] at d0 d1 d3
    dsimp only at d2 hM hQ
    rw [hst] at d1
    rw [hse] at d3
    clear dd hla'
    have qe : ((en : Int) == (en : Int)) = true := by simp
    have qn : ((en : Int) != (en : Int)) = false := by simp
    rw [show (st : Int) + (pl : Int) = (en : Int) from HEN2.out]
    go_wp2_with fail
    first
      | exact ⟨_, rfl, rfl, n - (i + 1), by omega, by trivial, i + 1, by go_num, by rw [HEN.out]; rfl, rfl, hlt, lp, ll, hphl⟩
      | exact ⟨rfl, n - (i + 1), by omega, i + 1, by go_num, by rw [HEN.out]; rfl, rfl, hlt⟩
  · obtain rfl : n = i := by omega
    have q0 : decide ((n : Int) < (n : Int)) = false := decide_eq_false (by omega)
    clear ll hphl
    go_wp2_with fail
    refine lp.known.mono ?_
    rintro e w9 ⟨rfl, hb9⟩
    go_wp2_with fail
    go_ret
    exact ⟨rfl, after_ lp.bel hb9⟩
end Go.Proofs.YtpkepgcmifdpfaaGreatDoor
end
