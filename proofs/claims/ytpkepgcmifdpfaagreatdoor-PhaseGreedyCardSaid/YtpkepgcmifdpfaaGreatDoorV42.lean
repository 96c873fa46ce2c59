/- A bundle of texts: Lp2, LpGr. -/
import Derived.Test.YtpkepgcmifdpfaaGreatDoorV39
import Derived.Test.YtpkepgcmifdpfaaGreatDoorV41
import Derived.Test.YtpkepgcmifdpfaaGreatDoorV40
section
namespace Go.Proofs.YtpkepgcmifdpfaaGreatDoor
open Go Go.RowKit
set_option maxRecDepth 100000
structure TrS (w : World) (a : TrA) (t : Tr) : Prop where
  P : Sl 5 p5cell w w.heap.size a.P t.ps
  L : Sl 6 mvcell w w.heap.size a.L t.l
  T : Sl 2 sicell w w.heap.size a.T t.T
  C : Sl 2 sicell w w.heap.size a.C t.C
  ints : M.Ints t.ps t.l
theorem M.few_len {t : Tr} (h : M.fewT t = true) : t.ps.length ≤ 30 ∧ t.l.length ≤ 8 ∧ t.T.length ≤ 8 ∧ t.C.length ≤ 8 := by
  unfold M.fewT at h
  simp only [Bool.and_eq_true, decide_eq_true_eq] at h
  omega
theorem TrS.tr {w : World} {a : TrA} {t : Tr} (h : TrS w a t) (hf : M.fewT t = true) : TrM w a t := by
  obtain ⟨-, h1, h2, h3⟩ := M.few_len hf
  exact ⟨h.P, h.L, h.T, h.C, by omega, by omega, by omega, fun p hp => ⟨(h.ints.p p hp).1, (h.ints.p p hp).2.1⟩⟩
structure LP (w W : World) (a : TrA) (t : Tr) (b : Nat) : Prop where
  bel : Below w.heap.size w W
  tab0 : Tab64 w
  tr0 : TrM w a t
  ints : M.Ints t.ps t.l
  x : Box W b (trc a t) 28
section
variable {w W W' : World} {a : TrA} {t : Tr} {b : Nat}
theorem LP.next (h : LP w W a t b) (hb : Below W.heap.size W W') : LP w W' a t b := ⟨after_ h.bel hb, h.tab0, h.tr0, h.ints, h.x.below hb⟩
theorem LP.tab (h : LP w W a t b) : Tab64 W := h.tab0.kept h.bel
theorem LP.tr (h : LP w W a t b) : TrM W a t := h.tr0.next h.bel
theorem LP.known (h : LP w W a t b) : Calls Tryz.prog 9 #[] W fun e w' => e = .returned (.bool true) ∧ Below W.heap.size W w' := known48_any W h.tab
end
namespace M
theorem gyIs_one {t : Tr} {x y : Int} (h1 : gyIs t x) (h2 : gyIs t y) : x = y := by
  rcases h1 with ⟨a1, a2⟩ | ⟨a1, a2, rfl⟩ | ⟨a1, a2, rfl⟩ <;> rcases h2 with ⟨b1, b2⟩ | ⟨b1, b2, rfl⟩ | ⟨b1, b2, rfl⟩
  · exact trIs_unique a2 b2
  · exact absurd (trIs_unique a2 b1) a1
  · exact absurd (trIs_unique a2 b1) a1
  · exact absurd (trIs_unique b2 a1) b1
  · rfl
  · exact absurd b2 a2
  · exact absurd (trIs_unique b2 a1) b1
  · exact absurd a2 b2
  · rfl
theorem gyP_row {t : Tr} (hok : mvsOk t.l) : ∀ s ∈ gyP t, s.length ≤ 262144 := fun s hs => by
  have hl := grps_len_le (ps := t.ps) hok
  have h1 := GyI.all (t := t) (G := tgr t) (W := twt t) (fun g hg => grps_small (ps := t.ps) hok hg) (tgr t).length (Nat.le_refl _)
  unfold gyP gy at hs
  obtain ⟨s', hs', rfl⟩ := List.mem_map.1 hs
  have h2 := (h1.row s' hs').1
  have h3 : (tgr t).length ≤ 512 := Nat.le_trans hl hok.1
  rw [isort_len]
  omega
end M
end Go.Proofs.YtpkepgcmifdpfaaGreatDoor
end

section
namespace Go.Proofs.YtpkepgcmifdpfaaGreatDoor
open Go Go.RowKit
set_option maxRecDepth 100000
set_option maxHeartbeats 32000000 in
theorem phaseGreedy_walk (a : TrA) (t : Tr) (w : World) (ht : Tab64 w) (hs : TrS w a t) :
    Calls Tryz.prog 5 #[trV a t] w fun e w' => e = .returned (.bool true) ∧ Below w.heap.size w w' := by
  obtain ⟨X, HX, x0, hB, -⟩ := boxes1 w (trc a t) 28
  have hX := HX.out
  obtain ⟨c0, c1, c2, c3, c4, c5⟩ := x0.c6
  obtain ⟨f, hf⟩ : ∃ f, M.fewT t = f := ⟨_, rfl⟩
  have kF := few48_ok a t X
  rw [hf] at kF
  have HT := Lib.hid ht
  have HS := Lib.hid hs
  have HF := Lib.hid hf
  clear ht hs hf
  go_enter Tryz.func5, Tryz.ntmps5
  go_wp2_with fail
  clear hX c0 c1 c2 c3 c4 c5
  refine kF.mono ?_
  rintro e w1 ⟨rfl, hb1⟩
  clear kF
  have B1 := after_ hB hb1
  cases f with
  | false =>
    have kK := known48_any w1 (HT.out.kept B1)
    go_wp2_with fail
    refine kK.mono ?_
    rintro e w2 ⟨rfl, hb2⟩
    go_wp2_with fail
    go_ret
    exact ⟨rfl, after_ B1 hb2⟩
  | true =>
  have lp : LP w w1 a t w.heap.size := ⟨B1, HT.out, HS.out.tr HF.out, HS.out.ints, x0.below hb1⟩
  clear x0 hb1 hB B1 HT HS
  obtain ⟨c0, c1, c2, c3, c4, c5⟩ := lp.x.c6
  go_wp2_with fail
  clear c0 c1 c2 c3 c4 c5
  refine (Greedy_ok a t w1 lp.tab lp.tr).mono ?_
  rintro e w2 ⟨⟨er, her, hc⟩, hb2⟩
  replace lp := lp.next hb2
  clear hb2
  obtain ⟨A1, cc1, ls1, e1, hll1, hx1⟩ : ∃ A c ls, e = .returned (.tuple #[.slice A ls.length c, .int .i64 er]) ∧ LL w2 A ls ∧ (ls.map (·.xs) = if er = 0 then M.gyP t else []) := by
    rcases hc with ⟨h1, rfl⟩ | ⟨rfl, A, c, ls, rfl, hlo, hx⟩
    · exact ⟨none, 0, [], rfl, ⟨Sl.nil_, fun s hs => by cases hs⟩, by rw [if_neg h1]; rfl⟩
    · exact ⟨A, c, ls, rfl, hlo.ll, by rw [if_pos rfl]; exact hx⟩
  subst e1
  clear hc
  obtain ⟨c0, c1, c2, c3, c4, c5⟩ := lp.x.c6
  go_wp2_with fail
  clear c0 c1 c2 c3 c4 c5
  refine (rGreedy_ok a t w2 lp.tr lp.ints).mono ?_
  rintro e w3 ⟨⟨er', her', hc⟩, hb3⟩
  obtain rfl := M.gyIs_one her' her
  replace lp := lp.next hb3
  replace hll1 := hll1.next hb3
  clear hb3
  obtain ⟨A2, cc2, ls2, e2, hll2, hx2⟩ : ∃ A c ls, e = .returned (.tuple #[.slice A ls.length c, .int .i64 er']) ∧ LL w3 A ls ∧ (ls.map (·.xs) = if er' = 0 then M.gyP t else []) := by
    rcases hc with ⟨h1, rfl⟩ | ⟨rfl, A, c, ls, rfl, hlo, hx⟩
    · exact ⟨none, 0, [], rfl, ⟨Sl.nil_, fun s hs => by cases hs⟩, by rw [if_neg h1]; rfl⟩
    · exact ⟨A, c, ls, rfl, hlo, by rw [if_pos rfl]; exact hx⟩
  subst e2
  have hrow : ls1.length ≤ 1000000 ∧ ∀ s ∈ ls1, s.xs.length ≤ 1000000 := by
    by_cases h0 : er' = 0
    · have hok : M.mvsOk t.l := by
        subst h0
        rcases her with ⟨h1, -⟩ | ⟨h1, -⟩ | ⟨h1, -⟩
        · exact absurd rfl h1
        · exact (M.trIs_zero h1).1.1
        · exact (M.trIs_zero h1).1.1
      rw [if_pos h0] at hx1
      constructor
      · have h2 := congrArg List.length hx1
        rw [List.length_map] at h2
        have h3 : (M.gyP t).length ≤ (M.tgr t).length := by
          unfold M.gyP M.gy
          rw [List.length_map]
          exact (M.GyI.all (t := t) (G := M.tgr t) (W := M.twt t) (fun g hg => M.grps_small (ps := t.ps) hok hg) (M.tgr t).length (Nat.le_refl _)).len
        have h4 := M.grps_len_le (ps := t.ps) hok
        have h5 := hok.1
        have h6 : (M.tgr t).length ≤ 512 := Nat.le_trans h4 h5
        omega
      · intro s hs
        have h2 : s.xs ∈ M.gyP t := by rw [← hx1]; exact List.mem_map.2 ⟨s, hs, rfl⟩
        have := M.gyP_row hok _ h2
        omega
    · rw [if_neg h0] at hx1
      obtain rfl := List.map_eq_nil_iff.1 hx1
      exact ⟨by simp, fun s hs => by cases hs⟩
  have kS := rSameLists_any A1 A2 cc1 cc2 ls1 ls2 w3 hll1 hll2 hrow.1 hrow.2
  rw [hx1, hx2, decide_eq_true rfl] at kS
  have qe : (er' == er') = true := by simp
  clear hc hll1 hll2 hrow hx1 hx2 her her'
  go_wp2_with fail
  refine kS.mono ?_
  rintro e w4 ⟨rfl, hb4⟩
  clear kS
  replace lp := lp.next hb4
  clear hb4
  go_wp2_with fail
  refine lp.known.mono ?_
  rintro e w5 ⟨rfl, hb5⟩
  go_wp2_with fail
  go_ret
  exact ⟨rfl, after_ lp.bel hb5⟩
end Go.Proofs.YtpkepgcmifdpfaaGreatDoor
end
