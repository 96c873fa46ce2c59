/- A bundle of texts: Lp2, LpBo. -/
import Derived.Test.YtpkepgcmifdpfaaGreatDoorU39
import Derived.Test.YtpkepgcmifdpfaaGreatDoorU41
import Derived.Test.YtpkepgcmifdpfaaGreatDoorU40
section
namespace Go.Proofs.YtpkepgcmifdpfaaGreatDoor
open Go Go.RowKit
set_option maxRecDepth 100000
structure TrS (w : World) (a : TrA) (t : Tr) : Prop where
 P : Sl 5 p5cell w w.heap.size a.P t.ps
 L : Sl 6 mvcell w w.heap.size a.L t.l
 T : Sl 2 sicell w w.heap.size a.T t.T
 C : Sl 2 sicell w w.heap.size a.C t.C
 ints : M.Ints t.ps t.l
theorem M.few_len {t : Tr} (h : M.fewT t = true) : t.ps.length ≤ 30 ∧ t.l.length ≤ 8 ∧ t.T.length ≤ 8 ∧ t.C.length ≤ 8 := by
 unfold M.fewT at h
 simp only [Bool.and_eq_true, decide_eq_true_eq] at h
 omega
theorem TrS.tr {w : World} {a : TrA} {t : Tr} (h : TrS w a t) (hf : M.fewT t = true) : TrM w a t := by
 obtain ⟨-, h1, h2, h3⟩ := M.few_len hf
 exact ⟨h.P, h.L, h.T, h.C, by omega, by omega, by omega, fun p hp => ⟨(h.ints.p p hp).1, (h.ints.p p hp).2.1⟩⟩
structure LP (w W : World) (a : TrA) (t : Tr) (b : Nat) : Prop where
 bel : Below w.heap.size w W
 tab0 : Tab64 w
 tr0 : TrM w a t
 ints : M.Ints t.ps t.l
 x : Box W b (trc a t) 28
section
variable {w W W' : World} {a : TrA} {t : Tr} {b : Nat}
theorem LP.next (h : LP w W a t b) (hb : Below W.heap.size W W') : LP w W' a t b := ⟨after_ h.bel hb, h.tab0, h.tr0, h.ints, h.x.below hb⟩
theorem LP.tab (h : LP w W a t b) : Tab64 W := h.tab0.kept h.bel
theorem LP.tr (h : LP w W a t b) : TrM W a t := h.tr0.next h.bel
theorem LP.known (h : LP w W a t b) : Calls Tryz.prog 9 #[] W fun e w' => e = .returned (.bool true) ∧ Below W.heap.size W w' := known48_any W h.tab
end
namespace M
end M
end Go.Proofs.YtpkepgcmifdpfaaGreatDoor
end

section
namespace Go.Proofs.YtpkepgcmifdpfaaGreatDoor
open Go Go.RowKit
set_option maxRecDepth 100000
set_option maxHeartbeats 32000000 in
theorem phaseBounds_walk (a : TrA) (t : Tr) (SA : Option Addr) (sc : Nat) (ss : List Int) (w : World) (ht : Tab64 w) (hs : TrS w a t) (hSS : Sl 1 icell w w.heap.size SA ss) (hsl : ss.length ≤ 9223372036854775807) (hsw : ∀ x ∈ ss, M.W64 x) :
    Calls Tryz.prog 3 #[trV a t, .slice SA ss.length sc] w fun e w' => e = .returned (.bool true) ∧ Below w.heap.size w w' := by
  obtain ⟨X, HX, x0, hB, -⟩ := boxes1 w (trc a t) 28
  have hX := HX.out
  obtain ⟨c0, c1, c2, c3, c4, c5⟩ := x0.c6
  obtain ⟨f, hf⟩ : ∃ f, M.fewT t = f := ⟨_, rfl⟩
  have kF := few48_ok a t X
  rw [hf] at kF
  have HT := Lib.hid ht
  have HS := Lib.hid hs
  have HF := Lib.hid hf
  have HSW := Lib.hid hsw
  clear ht hs hf hsw
  go_enter Tryz.func3, Tryz.ntmps3
  go_wp2_with fail
  clear hX c0 c1 c2 c3 c4 c5
  refine kF.mono ?_
  rintro e w1 ⟨rfl, hb1⟩
  clear kF
  have B1 := after_ hB hb1
  have kK := Lib.hid (known48_any w1 (HT.out.kept B1))
  cases f with
  | false =>
    go_wp2_with fail
    refine kK.out.mono ?_
    rintro e w2 ⟨rfl, hb2⟩
    go_wp2_with fail
    go_ret
    exact ⟨rfl, after_ B1 hb2⟩
  | true =>
  by_cases h12 : ss.length ≤ 12
  case neg =>
    have q0 : decide ((12 : Int) < (ss.length : Int)) = true := decide_eq_true (by omega)
    go_wp2_with fail
    refine kK.out.mono ?_
    rintro e w2 ⟨rfl, hb2⟩
    go_wp2_with fail
    go_ret
    exact ⟨rfl, after_ B1 hb2⟩
  have q0 : decide ((12 : Int) < (ss.length : Int)) = false := decide_eq_false (by omega)
  have lp : LP w w1 a t w.heap.size := ⟨B1, HT.out, HS.out.tr HF.out, HS.out.ints, x0.below hb1⟩
  replace hSS := (hSS.below B1).more B1.size
  clear x0 hb1 hB B1 HT HS kK
  obtain ⟨c0, c1, c2, c3, c4, c5⟩ := lp.x.c6
  go_wp2_with fail
  clear c0 c1 c2 c3 c4 c5
  clear q0
  obtain ⟨er, her⟩ := M.trIs_some t
  obtain ⟨sm, hsm⟩ : ∃ sm, (if er = 0 then M.small t ss else false) = sm := ⟨_, rfl⟩
  obtain ⟨bn, hbn⟩ : ∃ bn, (if er = 0 then M.leastN t else 0) = bn := ⟨_, rfl⟩
  refine (Small_ok a t SA sc ss w1 lp.tr hSS (by omega) HSW.out).mono ?_
  rintro e w2 ⟨⟨er', her', hc⟩, hb2⟩
  obtain rfl := M.trIs_unique her' her
  obtain rfl : e = .returned (.tuple #[.bool sm, .int .i64 er']) := by
    rcases hc with ⟨h1, rfl⟩ | ⟨rfl, rfl⟩
    · rw [← hsm, if_neg h1]
    · rw [← hsm, if_pos rfl]
  replace lp := lp.next hb2
  replace hSS := (hSS.below hb2).more hb2.size
  clear hb2 hc her'
  obtain ⟨c0, c1, c2, c3, c4, c5⟩ := lp.x.c6
  go_wp2_with fail
  clear c0 c1 c2 c3 c4 c5
  refine (Bound_ok a t w2 lp.tr).mono ?_
  rintro e w3 ⟨⟨er2, her', hc⟩, hb2⟩
  obtain rfl := M.trIs_unique her' her
  obtain rfl : e = .returned (.tuple #[.int .i64 (bn : Nat), .int .i64 er2]) := by
    rcases hc with ⟨h1, rfl⟩ | ⟨rfl, rfl⟩
    · rw [← hbn, if_neg h1]; rfl
    · rw [← hbn, if_pos rfl]
  replace lp := lp.next hb2
  replace hSS := (hSS.below hb2).more hb2.size
  clear hb2 hc her'
  obtain ⟨rv, hrv⟩ : ∃ r : Bool, r = true ↔ M.trOk t := ⟨(Classical.propDecidable (M.trOk t)).decide, by simp⟩
  have kV1 := Lib.hid (fun u : Kept w3.heap.size w3 => phValid_ok a t u.val (lp.tr.next u.h) rv hrv)
  have kV2 := Lib.hid (fun u : Kept w3.heap.size w3 => rValid48_ok a t u.val (lp.tr.next u.h) rv hrv)
  clear hrv
  have qv : (rv == rv) = true := by simp
  have qv2 : (rv != rv) = false := by simp
  have lb := lp.x.lt
  obtain ⟨c0, c1, c2, c3, c4, c5⟩ := lp.x.c6
  go_wp2_with fail
  refine wp_region_kept w3.heap.size w3 (by kernel_rfl) (by kernel_rfl) (Below.refl _ _) ?_
  repeat (go_big_quiet_step (first | (go_at_call 12; with_reducible exact Kept.calls (Nat.le_refl _) (kV1.out _)) | (go_at_call 13; with_reducible exact Kept.calls (Nat.le_refl _) (kV2.out _))))
  refine wpQuiet_nil ?_
  rintro w4 ⟨⟨w4x, hb4⟩, hw4⟩
  dsimp only at hw4
  subst hw4
  replace lp := lp.next hb4
  replace hSS := (hSS.below hb4).more hb4.size
  clear hb4 kV1 kV2 lb
  clear c0 c1 c2 c3 c4 c5
  obtain ⟨c0, c1, c2, c3, c4, c5⟩ := lp.x.c6
  go_wp2_with fail
  clear qv qv2
  clear c0 c1 c2 c3 c4 c5
  refine (rError48_ok a t w4 lp.tr er2 her).mono ?_
  rintro e w5 ⟨rfl, hb5⟩
  replace lp := lp.next hb5
  replace hSS := (hSS.below hb5).more hb5.size
  clear hb5
  by_cases h0 : er2 = 0
  case neg =>
    have qz : (er2 == 0) = false := by simpa using h0
    have qz2 : (er2 != 0) = true := by simpa using h0
    have qe : (er2 == er2) = true := by simp
    rw [if_neg h0] at hsm hbn
    subst hsm
    subst hbn
    clear h0 her
    go_wp2_with fail
    refine lp.known.mono ?_
    rintro e w6 ⟨rfl, hb6⟩
    go_wp2_with fail
    go_ret
    exact ⟨rfl, after_ lp.bel hb6⟩
  subst h0
  rw [if_pos rfl] at hsm hbn
  have hg := M.trIs_zero her
  have kS := rSmall48_ok a t SA sc ss w5 lp.tr hg hSS (by omega)
  rw [hsm] at kS
  have qs : (sm == sm) = true := by simp
  have qb : ((bn : Int) == (bn : Int)) = true := by simp
  have HG := Lib.hid hg
  have HBN := Lib.hid hbn
  clear hsm hbn her hg
  obtain ⟨c0, c1, c2, c3, c4, c5⟩ := lp.x.c6
  go_wp2_with fail
  clear c0 c1 c2 c3 c4 c5
  refine kS.mono ?_
  rintro e w6 ⟨rfl, hb6⟩
  replace lp := lp.next hb6
  clear hb6 kS
  have kB := rBound_ok a t w6 lp.tr HG.out
  rw [show M.leastN t = bn from HBN.out] at kB
  obtain ⟨c0, c1, c2, c3, c4, c5⟩ := lp.x.c6
  go_wp2_with fail
  clear c0 c1 c2 c3 c4 c5
  refine kB.mono ?_
  rintro e w7 ⟨rfl, hb7⟩
  replace lp := lp.next hb7
  clear hb7 kB
  go_wp2_with fail
  refine lp.known.mono ?_
  rintro e w8 ⟨rfl, hb8⟩
  go_wp2_with fail
  go_ret
  exact ⟨rfl, after_ lp.bel hb8⟩
end Go.Proofs.YtpkepgcmifdpfaaGreatDoor
end
