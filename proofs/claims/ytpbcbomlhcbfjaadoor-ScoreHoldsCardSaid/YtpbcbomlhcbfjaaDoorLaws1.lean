/- The walks of the laws ScoreRoot, ScoreRaw, ScoreOffer, ScoreOffers: each returns true. -/
import Derived.Test.YtpbcbomlhcbfjaaDoorKnown
namespace Go.Proofs.YtpbcbomlhcbfjaaDoor
open Go Go.RowKit

/-- What a law owes: it returns true and leaves what was there. -/
def LawTrue (w : World) (e : Ending) (w' : World) : Prop := e = .returned (.bool true) ∧ Below w.heap.size w w'

set_option maxHeartbeats 1000000 in
theorem refRaw_any (s l p : Int) (w : World) :
    Calls Tryd.prog 13 #[.agg #[.int .i64 s, .int .i64 l, .int .i64 p]] w fun e w' => e = .returned (.tuple #[.int .i64 (M.rawV s l p), .int .i64 (M.wtE s l p)]) ∧ Below w.heap.size w w' := by
  cases hv : M.wtB s l p
  · have h1 : Hid (M.rawV s l p = 0 ∧ M.wtE s l p = 2) := Lib.hid (by simp [M.rawV, M.wtE, hv])
    have HV := Lib.hid hv; clear hv
    go_enter Tryd.func13, Tryd.ntmps13
    go_wp2_with fail
    refine (refValid_eq HV.out _).mono ?_
    rintro e w1 ⟨rfl, hb⟩
    obtain ⟨hc, hf⟩ := bcell hb
    go_wp2_with fail
    go_ret2
    exact ⟨ret_int2 h1.out.1.symm h1.out.2.symm, ((Below.refl _ _).alloc (Nat.le_refl _) _).trans (hb.mono (by simp))⟩
  · have h1 : Hid (M.rawV s l p = M.rt (l * p) ∧ M.wtE s l p = 0) := Lib.hid (by simp [M.rawV, M.wtE, hv])
    obtain ⟨b1, b2⟩ := M.lp_bd hv
    have HV := Lib.hid hv; clear hv
    go_enter Tryd.func13, Tryd.ntmps13
    go_wp2_with fail
    refine (refValid_eq HV.out _).mono ?_
    rintro e w1 ⟨rfl, hb⟩
    obtain ⟨hc, hf⟩ := bcell hb
    go_wp2_with fail
    refine (square_any _ _ (by omega) (by omega)).mono ?_
    rintro e w2 ⟨rfl, rfl⟩
    go_wp2_with fail
    go_ret2
    exact ⟨ret_int2 h1.out.1.symm h1.out.2.symm, ((Below.refl _ _).alloc (Nat.le_refl _) _).trans (hb.mono (by simp))⟩

set_option maxHeartbeats 1000000 in
theorem scoreRoot_walk (n : Int) (w : World) (ht : Tab w) (hn : n ≤ 9223372036854775807) : Calls Tryd.prog 3 #[.int .i64 n] w (LawTrue w) := by
  by_cases h0 : 0 ≤ n
  · go_enter Tryd.func3, Tryd.ntmps3
    go_wp2_with fail
    refine (root_any _ _ h0 hn).mono ?_
    rintro e w1 ⟨rfl, rfl⟩
    go_wp2_with fail
    refine (square_any _ _ h0 hn).mono ?_
    rintro e w1 ⟨rfl, rfl⟩
    generalize M.rt n = r at *
    go_wp2_with fail
    refine (known_any _ ht).mono ?_
    rintro e w1 ⟨rfl, hb⟩
    go_wp2_with fail
    go_ret
    exact ⟨rfl, hb⟩
  · have h1 : n < 0 := by omega
    clear h0
    go_enter Tryd.func3, Tryd.ntmps3
    go_wp2_with fail
    refine (root_neg _ _ h1).mono ?_
    rintro e w1 ⟨rfl, rfl⟩
    go_wp2_with fail
    refine (known_any _ ht).mono ?_
    rintro e w1 ⟨rfl, hb⟩
    go_wp2_with fail
    go_ret
    exact ⟨rfl, hb⟩

set_option maxHeartbeats 1000000 in
theorem scoreRaw_walk (s l p : Int) (w : World) (ht : Tab w) : Calls Tryd.prog 4 #[.agg #[.int .i64 s, .int .i64 l, .int .i64 p]] w (LawTrue w) := by
  have hB0 := (Below.refl w.heap.size w).alloc (Nat.le_refl _) (.cells #[.int .i64 s, .int .i64 l, .int .i64 p] 29)
  go_enter Tryd.func4, Tryd.ntmps4
  go_wp2_with fail
  refine (raw_any s l p _).mono ?_
  rintro e w1 ⟨rfl, hb⟩
  obtain ⟨hc, hf⟩ := bcell hb
  have b1 := after_ hB0 hb
  go_wp2_with fail
  refine (refRaw_any s l p _).mono ?_
  rintro e w2 ⟨rfl, hb2⟩
  have b2 := after_ b1 hb2
  clear hc hf hb hb2 b1 hB0
  generalize M.rawV s l p = r at *
  generalize M.wtE s l p = r' at *
  go_wp2_with fail
  refine (known_any _ (ht.kept b2)).mono ?_
  rintro e w3 ⟨rfl, hb3⟩
  go_wp2_with fail
  go_ret
  exact ⟨rfl, after_ b2 hb3⟩

set_option maxHeartbeats 1000000 in
theorem scoreOffer_walk (v b h o : Int) (w : World) (ht : Tab w) : Calls Tryd.prog 6 #[.int .i64 v, .int .i64 b, .int .i64 h, .int .i64 o] w (LawTrue w) := by
  go_enter Tryd.func6, Tryd.ntmps6
  go_wp2_with fail
  refine (reduction_any _ _ _ ht).mono ?_
  rintro e w1 ⟨rfl, n, rfl⟩
  go_wp2_with fail
  refine (refReduction_any _ _ _).mono ?_
  rintro e w1 ⟨rfl, rfl⟩
  generalize M.redV h o = r1 at *
  generalize M.redE h o = r2 at *
  go_wp2_with fail
  refine (offer_any v b h o _ (ht.drewN n)).mono ?_
  rintro e w2 ⟨rfl, hb2⟩
  have b2 := after_ (below_drewN (Below.refl w.heap.size w) n) hb2
  go_wp2_with fail
  refine (refOffer_any v b h o _).mono ?_
  rintro e w3 ⟨rfl, rfl⟩
  clear hb2
  generalize M.offV v b h o = r3 at *
  generalize M.offE v b h o = r4 at *
  go_wp2_with fail
  refine (known_any _ (ht.kept b2)).mono ?_
  rintro e w3 ⟨rfl, hb3⟩
  go_wp2_with fail
  go_ret
  exact ⟨rfl, after_ b2 hb3⟩

theorem M.offs_len (v b h : Int) : (M.offs v b h).length ≤ 9223372036854775807 := by
  cases e : M.offsB v b h
  · simp [M.offs, e]
  · have := ((M.offsB_iff v b h).1 e).2
    simp [M.offs, e, M.offsTo_length]; omega

set_option maxHeartbeats 1000000 in
theorem scoreOffers_walk (v b h : Int) (w : World) (ht : Tab w) : Calls Tryd.prog 7 #[.int .i64 v, .int .i64 b, .int .i64 h] w (LawTrue w) := by
  have hlen := M.offs_len v b h
  go_enter Tryd.func7, Tryd.ntmps7
  go_wp2_with fail
  refine (offers_any v b h _ ht).mono ?_
  rintro e w1 ⟨A1, c1, rfl, hS1, hb1⟩
  go_wp2_with fail
  refine (refOffers_any v b h _).mono ?_
  rintro e w2 ⟨A2, c2, rfl, hS2, hb2⟩
  have b2 := after_ hb1 hb2
  have hS3 := (hS1.below hb2).more hb2.size
  clear hS1 hb1 hb2
  generalize M.offs v b h = L at *
  generalize M.offsE v b h = r4 at *
  go_wp2_with fail
  refine (sameInts_any _ _ _ _ _ _ _ _ hS3 hS2 hlen).mono ?_
  rintro e w3 ⟨rfl, n, rfl⟩
  rw [decide_eq_true rfl]
  have b3 := below_drewN b2 n
  go_wp2_with fail
  refine (known_any _ (ht.kept b3)).mono ?_
  rintro e w3 ⟨rfl, hb3⟩
  go_wp2_with fail
  go_ret
  exact ⟨rfl, after_ b3 hb3⟩
end Go.Proofs.YtpbcbomlhcbfjaaDoor
