/- A bundle of texts: KnM48, Kn48. -/
import Derived.Test.YtpkepgcmifdpfaaGreatDoorR37
import Derived.Test.YtpkepgcmifdpfaaGreatDoorR38
import Derived.Test.YtpkepgcmifdpfaaGreatDoorR31
import Derived.Test.YtpkepgcmifdpfaaGreatDoorR07
section
namespace Go.Proofs.YtpkepgcmifdpfaaGreatDoor
open Go
set_option maxRecDepth 100000
namespace M
def kt : Tr := ⟨[], [⟨1, 20, 30, 0, 0, 2⟩, ⟨2, 20, 31, 1, 0, 2⟩, ⟨3, 20, 32, 0, 0, 1⟩], [⟨0, 1⟩, ⟨1, 1⟩], [⟨0, 1⟩], 2, 3⟩
theorem kt_ok : trOk kt := ⟨⟨by decide, by decide, by decide⟩, ⟨by decide, by decide⟩, ⟨by decide, by decide⟩, by decide, by decide, by decide, by decide⟩
theorem kt_good : trGood kt := ⟨kt_ok, by decide, by unfold twAll; decide⟩
theorem kt_is {er : Int} (h : trIs kt er) : er = 0 := trIs_unique h (.inl ⟨kt_ok, kt_good.2.1, kt_good.2.2, rfl⟩)
theorem kt_s1 : small kt [1, 3] = true := by kernel_rfl
theorem kt_s2 : small kt [1, 2] = false := by kernel_rfl
theorem kt_least : leastN kt = 2 := by kernel_rfl
theorem kt_grps : tgr kt = [[1], [2], [3]] := by kernel_rfl
theorem kt_gy0 : (gyN kt (tgr kt) (twt kt) (tgr kt).length).1 = [[1, 3], [2]] := by kernel_rfl
theorem kt_gy : gyP kt = [[1, 3], [2]] := by
 unfold gyP gy
 rw [kt_gy0]
 simp only [List.map_cons, List.map_nil]
 rw [isort_id (by decide), isort_id (by decide)]
theorem kt_all : ∀ g ∈ tgr kt, small kt g = true := by
 rw [kt_grps]
 intro g hg
 simp only [List.mem_cons, List.not_mem_nil, or_false] at hg
 rcases hg with rfl | rfl | rfl <;> kernel_rfl
theorem kt_p1 : phPlan kt [[1], [2], [3]] = 0 := by kernel_rfl
theorem kt_p2 : phPlan kt [[1, 2], [3]] = 490 := by kernel_rfl
theorem kt_p3 : phPlan kt [[1, 3], [], [2]] = 2 := by kernel_rfl
theorem kt_p4 : phPlan kt [[1, 3], [2]] = 0 := by kernel_rfl
theorem kt_len : phLen kt [1, 3] = 3 ∧ phLen kt [2] = 2 := ⟨by kernel_rfl, by kernel_rfl⟩
end M
end Go.Proofs.YtpkepgcmifdpfaaGreatDoor
end

section
namespace Go.Proofs.YtpkepgcmifdpfaaGreatDoor
open Go Go.RowKit
set_option maxRecDepth 100000
abbrev ktc1 : Array Value := #[.int .i64 0, .int .i64 1]
abbrev ktcL : Array Value := #[.int .i64 1, .int .i64 20, .int .i64 30, .int .i64 0, .int .i64 0, .int .i64 2, .int .i64 2, .int .i64 20, .int .i64 31, .int .i64 1, .int .i64 0, .int .i64 2, .int .i64 3, .int .i64 20, .int .i64 32, .int .i64 0, .int .i64 0, .int .i64 1]
abbrev ktcT : Array Value := #[.int .i64 0, .int .i64 1, .int .i64 1, .int .i64 1]
abbrev kta (bc bl bt : Nat) : TrA := ⟨none, 0, some ⟨bl, 0, none⟩, 3, some ⟨bt, 0, none⟩, 2, some ⟨bc, 0, none⟩, 1⟩
structure K48 (w0 w : World) (bc bl bt b : Nat) : Prop where
  bel : Below w0.heap.size w0 w
  c : Box w bc ktc1 64
  l : Box w bl ktcL 66
  t : Box w bt ktcT 64
  x : Box w b (trc (kta bc bl bt) M.kt) 28
  tab0 : Tab64 w0
section
variable {w0 w w' : World} {bc bl bt b : Nat}
theorem K48.tab (h : K48 w0 w bc bl bt b) : Tab64 w := h.tab0.kept h.bel
theorem K48.next (h : K48 w0 w bc bl bt b) (hb : Below w.heap.size w w') : K48 w0 w' bc bl bt b := ⟨after_ h.bel hb, h.c.below hb, h.l.below hb, h.t.below hb, h.x.below hb, h.tab0⟩
theorem K48.tr (h : K48 w0 w bc bl bt b) : TrM w (kta bc bl bt) M.kt := ⟨Sl.nil_, Sl.of_box h.l rfl, Sl.of_box h.t rfl, Sl.of_box h.c rfl, by decide, by decide, by decide, fun p hp => by cases hp⟩
theorem kSmall (h : K48 w0 w bc bl bt b) (A : Option Addr) (c n : Nat) (ss : List Int) (r : Bool) (hn : n = ss.length) (hS : Sl 1 icell w w.heap.size A ss) (hs : ss.length ≤ 1000000) (hw : ∀ x ∈ ss, M.W64 x) (hr : M.small M.kt ss = r) : Calls Tryz.prog 10 #[trV (kta bc bl bt) M.kt, .slice A n c] w fun e w' => e = .returned (.tuple #[.bool r, .int .i64 0]) ∧ Below w.heap.size w w' := by
  subst hn hr
  refine (Small_ok _ M.kt A c ss w h.tr hS hs hw).mono ?_
  rintro e w' ⟨⟨er, her, hc⟩, hb⟩
  refine ⟨?_, hb⟩
  rcases hc with ⟨h1, -⟩ | ⟨-, rfl⟩
  · exact absurd (M.kt_is her) h1
  · rfl
theorem kBound (h : K48 w0 w bc bl bt b) : Calls Tryz.prog 11 #[trV (kta bc bl bt) M.kt] w fun e w' => e = .returned (.tuple #[.int .i64 2, .int .i64 0]) ∧ Below w.heap.size w w' := by
  refine (Bound_ok _ M.kt w h.tr).mono ?_
  rintro e w' ⟨⟨er, her, hc⟩, hb⟩
  refine ⟨?_, hb⟩
  rcases hc with ⟨h1, -⟩ | ⟨-, rfl⟩
  · exact absurd (M.kt_is her) h1
  · rw [M.kt_least]; rfl
theorem kGreedy (h : K48 w0 w bc bl bt b) : Calls Tryz.prog 24 #[trV (kta bc bl bt) M.kt] w fun e w' => (∃ A c ls, e = .returned (.tuple #[.slice A ls.length c, .int .i64 0]) ∧ LL w' A ls ∧ ls.map (·.xs) = [[1, 3], [2]]) ∧ Below w.heap.size w w' := by
  refine (Greedy_ok _ M.kt w h.tab h.tr).mono ?_
  rintro e w' ⟨⟨er, her, hc⟩, hb⟩
  refine ⟨?_, hb⟩
  have h0 : er = 0 := by
    rcases her with ⟨h1, h2⟩ | ⟨-, h2, -⟩ | ⟨-, -, h2⟩
    · exact M.kt_is h2
    · exact absurd M.kt_all h2
    · exact h2
  rcases hc with ⟨h1, -⟩ | ⟨-, A, c, ls, rfl, hlo, hls⟩
  · exact absurd h0 h1
  · exact ⟨A, c, ls, rfl, hlo.ll, by rw [hls, M.kt_gy]⟩
theorem kBest (h : K48 w0 w bc bl bt b) : Calls Tryz.prog 27 #[trV (kta bc bl bt) M.kt, .int .i64 0] w fun e w' => (∃ A c ls, e = .returned (.tuple #[.slice A ls.length c, .bool true, .int .i64 0]) ∧ LL w' A ls ∧ ls.map (·.xs) = [[1, 3], [2]]) ∧ Below w.heap.size w w' := by
  refine (Best_bound _ M.kt 0 w h.tab h.tr (Int.le_refl _) M.kt_good M.kt_all (by rw [M.kt_gy, M.kt_least]; decide)).mono ?_
  rintro e w' ⟨⟨A, c, ls, rfl, hlo, hls⟩, hb⟩
  exact ⟨⟨A, c, ls, rfl, hlo.ll, by rw [hls, M.kt_gy]⟩, hb⟩
theorem kTimed (h : K48 w0 w bc bl bt b) (A : Option Addr) (c n : Nat) (ls : List SLc) (hn : n = ls.length) (hO : LL w A ls) (hls : ls.map (·.xs) = [[1, 3], [2]]) : Calls Tryz.prog 19 #[trV (kta bc bl bt) M.kt, .slice A n c] w fun e w' => (∃ (A : Option Addr) (c : Nat) (p q : PhS), e = .returned (.tuple #[.slice A 2 c, .int .i64 0]) ∧ Sl 3 phcell w' w'.heap.size A [p, q] ∧ p.s = 0 ∧ p.e = 3 ∧ q.s = 3 ∧ q.e = 5) ∧ Below w.heap.size w w' := by
  subst hn
  have hm : ∀ s ∈ ls, s.xs = [1, 3] ∨ s.xs = [2] := fun s hs => by
    have h1 : s.xs ∈ ls.map (·.xs) := List.mem_map.2 ⟨s, hs, rfl⟩
    rw [hls] at h1
    simpa using h1
  have hl2 : ls.length = 2 := by have := congrArg List.length hls; rw [List.length_map] at this; exact this
  have hp0 : M.phPlan M.kt (ls.map (·.xs)) = 0 := by rw [hls]; exact M.kt_p4
  have hpo : PlanOk ls := by
    refine ⟨by omega, fun s hs => ?_⟩
    rcases hm s hs with e | e
    · rw [e]
      exact ⟨by decide, fun x hx => by unfold M.W64; simp at hx; omega⟩
    · rw [e]
      exact ⟨by decide, fun x hx => by unfold M.W64; simp at hx; omega⟩
  refine (Timed_ok _ M.kt A c ls w h.tab h.tr hO hpo).mono ?_
  rintro e w' ⟨⟨er, her, hc⟩, hb⟩
  refine ⟨?_, hb⟩
  rcases hc with ⟨h1, -⟩ | ⟨-, ⟨h1, -⟩ | ⟨-, A', c', ps, rfl, hphl, hpt⟩⟩
  · exact absurd (M.kt_is her) h1
  · exact absurd hp0 h1
  · obtain ⟨hpl, hpt2⟩ := hpt
    rw [hl2] at hpl
    obtain ⟨p, q, rfl⟩ : ∃ p q, ps = [p, q] := by
      match ps, hpl with
      | [p, q], _ => exact ⟨p, q, rfl⟩
    rw [hls] at hpt2
    obtain ⟨-, a1, a2⟩ := hpt2 0 (by simp) (by decide)
    obtain ⟨-, b1, b2⟩ := hpt2 1 (by simp) (by decide)
    simp only [List.getElem_cons_zero, List.getElem_cons_succ] at a1 a2 b1 b2
    have e0 : M.tmS M.kt [[1, 3], [2]] 0 = 0 := M.tmS_zero _ _
    have e1 : M.tmS M.kt [[1, 3], [2]] 1 = 3 := by rw [M.tmS_succ M.kt [[1, 3], [2]] (k := 0) (by decide), e0]; exact M.kt_len.1
    have e2 : M.tmS M.kt [[1, 3], [2]] 2 = 5 := by rw [M.tmS_succ M.kt [[1, 3], [2]] (k := 1) (by decide), e1, show M.phLen M.kt ([[1, 3], [2]] : List (List Int))[1] = 2 from M.kt_len.2]
    exact ⟨A', c', p, q, rfl, hphl.outer, by rw [a1]; exact e0, by rw [a2]; exact e1, by rw [b1]; exact e1, by rw [b2]; exact e2⟩
theorem kCheck (h : K48 w0 w bc bl bt b) (OA : Option Addr) (oc no : Nat) (os : List SLc) (r : Int) (hno : no = os.length) (hO : LL w OA os) (hol : os.length ≤ 10) (hoi : ∀ s ∈ os, s.xs.length ≤ 10 ∧ ∀ x ∈ s.xs, 0 ≤ x ∧ x ≤ 10) (hr : M.phPlan M.kt (os.map (·.xs)) = r) : Calls Tryz.prog 20 #[trV (kta bc bl bt) M.kt, .slice OA no oc] w fun e w' => e = .returned (.int .i64 r) ∧ Below w.heap.size w w' := by
  subst hno hr
  refine (Check_ok _ M.kt OA oc os w h.tab h.tr hO ⟨by omega, fun s hs => ⟨by have := (hoi s hs).1; omega, fun x hx => by have := (hoi s hs).2 x hx; unfold M.W64; omega⟩⟩).mono ?_
  rintro e w' ⟨⟨er, her, hc⟩, hb⟩
  refine ⟨?_, hb⟩
  rcases hc with ⟨h1, -⟩ | ⟨-, rfl⟩
  · exact absurd (M.kt_is her) h1
  · rfl
end
theorem LL.lit {w : World} {b : Nat} {cs : Array Value} {t : TypeId} {ls : List SLc} (hb : Box w b cs t) (h : cs.toList = flat 1 slcell ls) (hi : ∀ s ∈ ls, Sl 1 icell w w.heap.size s.A s.xs) : LL w (some ⟨b, 0, none⟩) ls := ⟨Sl.of_box hb h, hi⟩
set_option maxHeartbeats 64000000 in
theorem known48_any (w : World) (ht : Tab64 w) : Calls Tryz.prog 9 #[] w fun e w' => e = .returned (.bool true) ∧ Below w.heap.size w w' := by
  obtain ⟨V, HW, x1, x2, x3, x4, hB, -⟩ := boxes4 w ktc1 64 ktcL 66 ktcT 64 #[.slice none 0 0, .slice none 0 0, .slice none 0 0, .slice none 0 0, .int .i64 0, .int .i64 0] 28
  have c0 := x4.cell 0 rfl
  have f0 := x4.frozen 0
  have z0 := x4.set 0 (.slice none 0 0)
  have c1 := z0.cell 1 rfl
  have f1 := z0.frozen 1
  have z1 := z0.set 1 (.slice (some ⟨w.heap.size + 1, 0, none⟩) 3 3)
  have c2 := z1.cell 2 rfl
  have f2 := z1.frozen 2
  have z2 := z1.set 2 (.slice (some ⟨w.heap.size + 1 + 1, 0, none⟩) 2 2)
  have c3 := z2.cell 3 rfl
  have f3 := z2.frozen 3
  have z3 := z2.set 3 (.slice (some ⟨w.heap.size, 0, none⟩) 1 1)
  have c4 := z3.cell 4 rfl
  have f4 := z3.frozen 4
  have z4 := z3.set 4 (.int .i64 2)
  have c5 := z4.cell 5 rfl
  have f5 := z4.frozen 5
  have z5 := z4.set 5 (.int .i64 3)
  obtain ⟨Y, hY⟩ : ∃ Y, (((((V.setCell ⟨w.heap.size + 1 + 1 + 1, 0, none⟩ (.slice none 0 0)).setCell ⟨w.heap.size + 1 + 1 + 1, 1, none⟩ (.slice (some ⟨w.heap.size + 1, 0, none⟩) 3 3)).setCell ⟨w.heap.size + 1 + 1 + 1, 2, none⟩ (.slice (some ⟨w.heap.size + 1 + 1, 0, none⟩) 2 2)).setCell ⟨w.heap.size + 1 + 1 + 1, 3, none⟩ (.slice (some ⟨w.heap.size, 0, none⟩) 1 1)).setCell ⟨w.heap.size + 1 + 1 + 1, 4, none⟩ (.int .i64 2)).setCell ⟨w.heap.size + 1 + 1 + 1, 5, none⟩ (.int .i64 3) = Y := ⟨_, rfl⟩
  rw [hY] at z5
  have HY := Lib.hid hY
  have l4 := x4.lt
  have hb6 : Below w.heap.size w Y := by
    rw [← hY]
    have h3 : w.heap.size ≤ w.heap.size + 1 + 1 + 1 := by omega
    exact (((((hB.setCell (p := ⟨w.heap.size + 1 + 1 + 1, 0, none⟩) h3 _).setCell (p := ⟨w.heap.size + 1 + 1 + 1, 1, none⟩) h3 _).setCell (p := ⟨w.heap.size + 1 + 1 + 1, 2, none⟩) h3 _).setCell (p := ⟨w.heap.size + 1 + 1 + 1, 3, none⟩) h3 _).setCell (p := ⟨w.heap.size + 1 + 1 + 1, 4, none⟩) h3 _).setCell (p := ⟨w.heap.size + 1 + 1 + 1, 5, none⟩) h3 _
  have hoth : ∀ {b : Nat} {cs : Array Value} {t : TypeId}, Box V b cs t → b ≠ w.heap.size + 1 + 1 + 1 → Box Y b cs t := fun {b cs t} hx hne => by
    rw [← hY]
    exact (((((hx.set_other (p := ⟨w.heap.size + 1 + 1 + 1, 0, none⟩) hne _).set_other (p := ⟨w.heap.size + 1 + 1 + 1, 1, none⟩) hne _).set_other (p := ⟨w.heap.size + 1 + 1 + 1, 2, none⟩) hne _).set_other (p := ⟨w.heap.size + 1 + 1 + 1, 3, none⟩) hne _).set_other (p := ⟨w.heap.size + 1 + 1 + 1, 4, none⟩) hne _).set_other (p := ⟨w.heap.size + 1 + 1 + 1, 5, none⟩) hne _
  have kw : K48 w Y w.heap.size (w.heap.size + 1) (w.heap.size + 1 + 1) (w.heap.size + 1 + 1 + 1) := ⟨hb6, hoth x1 (by omega), hoth x2 (by omega), hoth x3 (by omega), z5, ht⟩
  have KW := Lib.hid kw
  have HSZ : Hid (V.heap.size = Y.heap.size) := Lib.hid (by rw [← hY]; simp)
  clear kw hoth hb6 l4 z0 z1 z2 z3 z4 z5 hY x1 x2 x3 x4 hB ht
  go_enter Tryz.func9, Tryz.ntmps9
  have hV := HW.out
  go_wp2_with fail
  rw [HY.out, HSZ.out]
  have kw := KW.out
  clear KW HSZ HY HW hV c0 c1 c2 c3 c4 c5 f0 f1 f2 f3 f4 f5
  generalize w.heap.size = s0 at *
  obtain ⟨U0, HU0, u0, hbU0, -⟩ := boxes1 Y #[.int .i64 1, .int .i64 3] 3
  rw [HU0.out]
  replace kw := kw.next hbU0
  refine (kSmall kw _ _ 2 [1, 3] true rfl (Sl.of_box u0 rfl) (by simp) (fun x hx => by unfold M.W64; simp at hx; omega) M.kt_s1).mono ?_
  clear u0 hbU0 HU0
  rintro e w1 ⟨rfl, hb1⟩
  replace kw := kw.next hb1
  clear hb1
  obtain ⟨U1, HU1, u1, hbU1, -⟩ := boxes1 w1 #[.int .i64 1, .int .i64 2] 3
  have hU1 := HU1.out
  obtain ⟨c0, c1, c2, c3, c4, c5⟩ := kw.x.c6
  have kS := kSmall (kw.next hbU1) _ 2 2 [1, 2] false rfl (Sl.of_box u1 rfl) (by simp) (fun x hx => by unfold M.W64; simp at hx; omega) M.kt_s2
  replace kw := kw.next hbU1
  clear u1 hbU1 HU1
  go_wp2_with fail
  clear hU1
  clear c0 c1 c2 c3 c4 c5
  refine kS.mono ?_
  rintro e w2 ⟨rfl, hb2⟩
  clear kS
  replace kw := kw.next hb2
  clear hb2
  obtain ⟨c0, c1, c2, c3, c4, c5⟩ := kw.x.c6
  go_wp2_with fail
  clear c0 c1 c2 c3 c4 c5
  refine (kBound kw).mono ?_
  rintro e w3 ⟨rfl, hb3⟩
  replace kw := kw.next hb3
  clear hb3
  obtain ⟨c0, c1, c2, c3, c4, c5⟩ := kw.x.c6
  go_wp2_with fail
  clear c0 c1 c2 c3 c4 c5
  refine (kGreedy kw).mono ?_
  rintro e w4 ⟨⟨A1, cc1, lsp, rfl, hllp, hlsp⟩, hb4⟩
  replace kw := kw.next hb4
  clear hb4
  obtain ⟨c0, c1, c2, c3, c4, c5⟩ := kw.x.c6
  go_wp2_with fail
  clear c0 c1 c2 c3 c4 c5
  refine (kBest kw).mono ?_
  rintro e w5 ⟨⟨A2, cc2, lsq, rfl, hllq, hlsq⟩, hb5⟩
  replace kw := kw.next hb5
  replace hllp := hllp.next hb5
  clear hb5
  have hlp2 : lsp.length = 2 := by have := congrArg List.length hlsp; rw [List.length_map] at this; exact this
  have hlq2 : lsq.length = 2 := by have := congrArg List.length hlsq; rw [List.length_map] at this; exact this
  rw [hlp2, hlq2]
  obtain ⟨c0, c1, c2, c3, c4, c5⟩ := kw.x.c6
  go_wp2_with fail
  clear c0 c1 c2 c3 c4 c5
  refine (kTimed kw A1 cc1 2 lsp hlp2.symm hllp hlsp).mono ?_
  rintro e w6 ⟨⟨A3, cc3, p, q, rfl, hSp, hp1, hp2, hq1, hq2⟩, hb6⟩
  replace kw := kw.next hb6
  replace hllp := hllp.next hb6
  replace hllq := hllq.next hb6
  clear hb6
  obtain ⟨V1, HV1, ya0, ya1, ya2, hBV1, hsV1⟩ := boxes3 w6 #[.int .i64 1, .int .i64 3] 3 #[.int .i64 2] 3 #[.slice (some ⟨w6.heap.size, 0, none⟩) 2 2, .slice (some ⟨w6.heap.size + 1, 0, none⟩) 1 1] 29
  have la : LL V1 (some ⟨w6.heap.size + 1 + 1, 0, none⟩) [⟨some ⟨w6.heap.size, 0, none⟩, 2, [1, 3]⟩, ⟨some ⟨w6.heap.size + 1, 0, none⟩, 1, [2]⟩] := LL.lit ya2 rfl (fun s hs => by
    simp only [List.mem_cons, List.not_mem_nil, or_false] at hs
    rcases hs with rfl | rfl
    · exact Sl.of_box ya0 rfl
    · exact Sl.of_box ya1 rfl)
  have hV1 := HV1.out
  clear hsV1 ya0 ya1 ya2
  replace kw := kw.next hBV1
  replace hllp := hllp.next hBV1
  replace hllq := hllq.next hBV1
  replace hSp := (hSp.below hBV1).more hBV1.size
  have kSp := rSameLists_any A1 _ cc1 2 lsp [⟨some ⟨w6.heap.size, 0, none⟩, 2, [1, 3]⟩, ⟨some ⟨w6.heap.size + 1, 0, none⟩, 1, [2]⟩] V1 hllp la (by omega) (fun s hs => by
    have h1 : s.xs ∈ lsp.map (·.xs) := List.mem_map.2 ⟨s, hs, rfl⟩
    rw [hlsp] at h1
    simp only [List.mem_cons, List.not_mem_nil, or_false] at h1
    rcases h1 with h1 | h1 <;> rw [h1] <;> decide)
  rw [hlp2, hlsp, show List.map (fun (x : SLc) => x.xs) [⟨some ⟨w6.heap.size, 0, none⟩, 2, [1, 3]⟩, ⟨some ⟨w6.heap.size + 1, 0, none⟩, 1, [2]⟩] = [[1, 3], [2]] from rfl, decide_eq_true rfl] at kSp
  clear hBV1 HV1
  go_wp2_with fail
  clear hV1
  refine kSp.mono ?_
  rintro e t1 ⟨rfl, hb7⟩
  clear kSp hllp
  replace kw := kw.next hb7
  replace hllq := hllq.next hb7
  replace hSp := (hSp.below hb7).more hb7.size
  replace la := la.next hb7
  clear hb7
  have kSq := rSameLists_any A2 _ cc2 2 lsq [⟨some ⟨w6.heap.size, 0, none⟩, 2, [1, 3]⟩, ⟨some ⟨w6.heap.size + 1, 0, none⟩, 1, [2]⟩] t1 hllq la (by omega) (fun s hs => by
    have h1 : s.xs ∈ lsq.map (·.xs) := List.mem_map.2 ⟨s, hs, rfl⟩
    rw [hlsq] at h1
    simp only [List.mem_cons, List.not_mem_nil, or_false] at h1
    rcases h1 with h1 | h1 <;> rw [h1] <;> decide)
  rw [hlq2, hlsq, show List.map (fun (x : SLc) => x.xs) [⟨some ⟨w6.heap.size, 0, none⟩, 2, [1, 3]⟩, ⟨some ⟨w6.heap.size + 1, 0, none⟩, 1, [2]⟩] = [[1, 3], [2]] from rfl, decide_eq_true rfl] at kSq
  go_wp2_with fail
  refine kSq.mono ?_
  rintro e t2 ⟨rfl, hb8⟩
  clear kSq hllq la
  replace kw := kw.next hb8
  replace hSp := (hSp.below hb8).more hb8.size
  clear hb8 hlp2 hlq2 hlsp hlsq
  obtain ⟨l3, hl3, hl3b, -, e0⟩ := hSp.sp (by decide) (k := 0) (by simp)
  obtain ⟨l4, hl4, hl4b, -, e1⟩ := hSp.sp (by decide) (k := 1) (by simp)
  rw [hl3] at hl4
  obtain rfl := Option.some.inj hl4
  have g1 := e0 1 (by decide) (by decide)
  have g2 := e0 2 (by decide) (by decide)
  have g3 := e1 1 (by decide) (by decide)
  have g4 := e1 2 (by decide) (by decide)
  simp only [List.getElem_cons_zero, List.getElem_cons_succ, phcell, hp1, hp2, hq1, hq2, Nat.zero_mul, Nat.one_mul] at g1 g2 g3 g4
  rw [show l3.add 0 = l3 by simp [Addr.add]] at g1 g2
  rw [show l3.add 3 = ⟨l3.block, l3.off + 3, none⟩ by simp [Addr.add]] at g3 g4
  clear e0 e1 hSp hp1 hp2 hq1 hq2 hl4 hl3b hl4b
  subst hl3
  obtain ⟨c0, c1, c2, c3, c4, c5⟩ := kw.x.c6
  obtain ⟨W0, HW0, yu00, yu01, yu02, yu03, hBW0, hsW0⟩ := boxes4 t2 #[.int .i64 1] 3 #[.int .i64 2] 3 #[.int .i64 3] 3 #[.slice (some ⟨t2.heap.size, 0, none⟩) 1 1, .slice (some ⟨t2.heap.size + 1, 0, none⟩) 1 1, .slice (some ⟨t2.heap.size + 1 + 1, 0, none⟩) 1 1] 29
  have lu0 : LL W0 (some ⟨t2.heap.size + 1 + 1 + 1, 0, none⟩) [⟨some ⟨t2.heap.size, 0, none⟩, 1, [1]⟩, ⟨some ⟨t2.heap.size + 1, 0, none⟩, 1, [2]⟩, ⟨some ⟨t2.heap.size + 1 + 1, 0, none⟩, 1, [3]⟩] := LL.lit yu03 rfl (fun s hs => by
    simp only [List.mem_cons, List.not_mem_nil, or_false] at hs
    rcases hs with rfl | rfl | rfl
    · exact Sl.of_box yu00 rfl
    · exact Sl.of_box yu01 rfl
    · exact Sl.of_box yu02 rfl)
  have hW0 := HW0.out
  clear hsW0 yu00 yu01 yu02 yu03
  replace kw := kw.next hBW0
  have kS := kCheck kw _ 3 3 [⟨some ⟨t2.heap.size, 0, none⟩, 1, [1]⟩, ⟨some ⟨t2.heap.size + 1, 0, none⟩, 1, [2]⟩, ⟨some ⟨t2.heap.size + 1 + 1, 0, none⟩, 1, [3]⟩] 0 rfl lu0 (by simp) (fun s hs => by
    simp only [List.mem_cons, List.not_mem_nil, or_false] at hs
    rcases hs with rfl | rfl | rfl <;> exact ⟨by simp, fun x hx => by simp at hx <;> omega⟩) M.kt_p1
  clear hBW0 lu0 HW0
  go_wp2_with fail
  clear hW0 c0 c1 c2 c3 c4 c5 g1 g2 g3 g4
  refine kS.mono ?_
  rintro e v0 ⟨rfl, hb7⟩
  clear kS
  replace kw := kw.next hb7
  clear hb7
  obtain ⟨c0, c1, c2, c3, c4, c5⟩ := kw.x.c6
  obtain ⟨W1, HW1, yu10, yu11, yu12, hBW1, hsW1⟩ := boxes3 v0 #[.int .i64 1, .int .i64 2] 3 #[.int .i64 3] 3 #[.slice (some ⟨v0.heap.size, 0, none⟩) 2 2, .slice (some ⟨v0.heap.size + 1, 0, none⟩) 1 1] 29
  have lu1 : LL W1 (some ⟨v0.heap.size + 1 + 1, 0, none⟩) [⟨some ⟨v0.heap.size, 0, none⟩, 2, [1, 2]⟩, ⟨some ⟨v0.heap.size + 1, 0, none⟩, 1, [3]⟩] := LL.lit yu12 rfl (fun s hs => by
    simp only [List.mem_cons, List.not_mem_nil, or_false] at hs
    rcases hs with rfl | rfl
    · exact Sl.of_box yu10 rfl
    · exact Sl.of_box yu11 rfl)
  have hW1 := HW1.out
  clear hsW1 yu10 yu11 yu12
  replace kw := kw.next hBW1
  have kS := kCheck kw _ 2 2 [⟨some ⟨v0.heap.size, 0, none⟩, 2, [1, 2]⟩, ⟨some ⟨v0.heap.size + 1, 0, none⟩, 1, [3]⟩] 490 rfl lu1 (by simp) (fun s hs => by
    simp only [List.mem_cons, List.not_mem_nil, or_false] at hs
    rcases hs with rfl | rfl <;> exact ⟨by simp, fun x hx => by simp at hx <;> omega⟩) M.kt_p2
  clear hBW1 lu1 HW1
  go_wp2_with fail
  clear hW1 c0 c1 c2 c3 c4 c5
  refine kS.mono ?_
  rintro e v1 ⟨rfl, hb7⟩
  clear kS
  replace kw := kw.next hb7
  clear hb7
  obtain ⟨c0, c1, c2, c3, c4, c5⟩ := kw.x.c6
  obtain ⟨W2, HW2, yu20, yu21, yu22, hBW2, hsW2⟩ := boxes3 v1 #[.int .i64 1, .int .i64 3] 3 #[.int .i64 2] 3 #[.slice (some ⟨v1.heap.size, 0, none⟩) 2 2, .slice none 0 0, .slice (some ⟨v1.heap.size + 1, 0, none⟩) 1 1] 29
  have lu2 : LL W2 (some ⟨v1.heap.size + 1 + 1, 0, none⟩) [⟨some ⟨v1.heap.size, 0, none⟩, 2, [1, 3]⟩, ⟨none, 0, []⟩, ⟨some ⟨v1.heap.size + 1, 0, none⟩, 1, [2]⟩] := LL.lit yu22 rfl (fun s hs => by
    simp only [List.mem_cons, List.not_mem_nil, or_false] at hs
    rcases hs with rfl | rfl | rfl
    · exact Sl.of_box yu20 rfl
    · exact Sl.nil_
    · exact Sl.of_box yu21 rfl)
  have hW2 := HW2.out
  clear hsW2 yu20 yu21 yu22
  replace kw := kw.next hBW2
  have kS := kCheck kw _ 3 3 [⟨some ⟨v1.heap.size, 0, none⟩, 2, [1, 3]⟩, ⟨none, 0, []⟩, ⟨some ⟨v1.heap.size + 1, 0, none⟩, 1, [2]⟩] 2 rfl lu2 (by simp) (fun s hs => by
    simp only [List.mem_cons, List.not_mem_nil, or_false] at hs
    rcases hs with rfl | rfl | rfl <;> exact ⟨by simp, fun x hx => by simp at hx <;> omega⟩) M.kt_p3
  clear hBW2 lu2 HW2
  go_wp2_with fail
  clear hW2 c0 c1 c2 c3 c4 c5
  refine kS.mono ?_
  rintro e v2 ⟨rfl, hb7⟩
  clear kS
  replace kw := kw.next hb7
  clear hb7
  go_wp2_with fail
  go_ret
  exact ⟨rfl, kw.bel⟩
end Go.Proofs.YtpkepgcmifdpfaaGreatDoor
end
