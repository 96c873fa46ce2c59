/- The contracts of score.Reduction, score.Offer and their references. -/
import Derived.Test.YtpbcbomlhcbfjaaDoorValid
namespace Go.Proofs.YtpbcbomlhcbfjaaDoor
open Go Go.RowKit

/-- The table of worths lies in its variable. -/
structure Tab (w : World) : Prop where
  c0 : w.cell? ⟨0, 0, none⟩ = some (.int .i64 0)
  c1 : w.cell? ⟨0, 1, none⟩ = some (.int .i64 250)
  c2 : w.cell? ⟨0, 2, none⟩ = some (.int .i64 600)
  c3 : w.cell? ⟨0, 3, none⟩ = some (.int .i64 1000)
theorem Tab.below {w w' : World} {B : Nat} (h : Tab w) (hb : Below B w w') (h0 : 0 < B) : Tab w' :=
  ⟨(hb.cell (p := ⟨_, _, _⟩) h0).trans h.c0, (hb.cell (p := ⟨_, _, _⟩) h0).trans h.c1, (hb.cell (p := ⟨_, _, _⟩) h0).trans h.c2, (hb.cell (p := ⟨_, _, _⟩) h0).trans h.c3⟩
theorem Tab.pos {w : World} (h : Tab w) : 0 < w.heap.size := by
  have := h.c0
  apply Nat.lt_of_not_le; intro hle
  simp [World.cell?, Array.getElem?_eq_none hle] at this
theorem Tab.drewN {w : World} (h : Tab w) (n : Nat) : Tab (w.drewN n) := ⟨h.c0, h.c1, h.c2, h.c3⟩
theorem Tab.kept {w w' : World} (h : Tab w) (hb : Below w.heap.size w w') : Tab w' := h.below hb h.pos

/-- The worth of a band. -/
def M.worth (b : Int) : Int := if b = 1 then 250 else if b = 2 then 600 else if b = 3 then 1000 else 0
def M.redB (home option : Int) : Bool := decide (1 ≤ home ∧ home ≤ 3 ∧ 0 ≤ option ∧ option ≤ home)
def M.redV (home option : Int) : Int := if M.redB home option then M.worth home - M.worth option else 0
def M.redE (home option : Int) : Int := if M.redB home option then 0 else 2

theorem M.red_cases (home option : Int) : (home < 1 ∨ 3 < home ∨ option < 0 ∨ home < option) ∨ (home = 1 ∧ option = 0) ∨ (home = 1 ∧ option = 1) ∨ (home = 2 ∧ option = 0) ∨ (home = 2 ∧ option = 1) ∨ (home = 2 ∧ option = 2) ∨ (home = 3 ∧ option = 0) ∨ (home = 3 ∧ option = 1) ∨ (home = 3 ∧ option = 2) ∨ (home = 3 ∧ option = 3) := by omega
theorem M.red_no {home option : Int} (h : home < 1 ∨ 3 < home ∨ option < 0 ∨ home < option) : M.redV home option = 0 ∧ M.redE home option = 2 := by
  have : M.redB home option = false := by unfold M.redB; rw [decide_eq_false_iff_not]; omega
  simp [M.redV, M.redE, this]

set_option maxHeartbeats 2000000 in
theorem reduction_any (home option : Int) (w : World) (ht : Tab w) :
    Calls Tryd.prog 17 #[.int .i64 home, .int .i64 option] w fun e w' => e = .returned (.tuple #[.int .i64 (M.redV home option), .int .i64 (M.redE home option)]) ∧ ∃ n, w' = w.drewN n := by
  obtain ⟨t0, t1, t2, t3⟩ := ht
  rcases M.red_cases home option with h | ⟨rfl, rfl⟩ | ⟨rfl, rfl⟩ | ⟨rfl, rfl⟩ | ⟨rfl, rfl⟩ | ⟨rfl, rfl⟩ | ⟨rfl, rfl⟩ | ⟨rfl, rfl⟩ | ⟨rfl, rfl⟩ | ⟨rfl, rfl⟩
  · have fin := Lib.hid (M.red_no h)
    clear t0 t1 t2 t3
    go_enter Tryd.func17, Tryd.ntmps17
    go_wp2
    all_goals
      go_ret2
      exact ⟨ret_int2 fin.out.1.symm fin.out.2.symm, 0, rfl⟩
  all_goals
    go_enter Tryd.func17, Tryd.ntmps17
    go_wp2
    go_quiet (fail)
    go_wp2
    go_ret2
    exact ⟨ret_int2 (by decide) (by decide), _, rfl⟩

set_option maxHeartbeats 2000000 in
theorem refReduction_any (home option : Int) (w : World) :
    Calls Tryd.prog 18 #[.int .i64 home, .int .i64 option] w fun e w' => e = .returned (.tuple #[.int .i64 (M.redV home option), .int .i64 (M.redE home option)]) ∧ w = w' := by
  rcases M.red_cases home option with h | ⟨rfl, rfl⟩ | ⟨rfl, rfl⟩ | ⟨rfl, rfl⟩ | ⟨rfl, rfl⟩ | ⟨rfl, rfl⟩ | ⟨rfl, rfl⟩ | ⟨rfl, rfl⟩ | ⟨rfl, rfl⟩ | ⟨rfl, rfl⟩
  · have fin := Lib.hid (M.red_no h)
    go_enter Tryd.func18, Tryd.ntmps18
    go_wp2
    all_goals
      go_ret2
      exact ⟨ret_int2 fin.out.1.symm fin.out.2.symm, rfl⟩
  all_goals
    go_enter Tryd.func18, Tryd.ntmps18
    go_wp2
    go_ret2
    exact ⟨ret_int2 (by decide) (by decide), rfl⟩

def M.offB (v b h o : Int) : Bool := decide (1 ≤ v ∧ v ≤ 1000000 ∧ 0 ≤ b ∧ b ≤ 1000000000) && M.redB h o
def M.offV (v b h o : Int) : Int := if M.offB v b h o then v * b * M.redV h o / 1000000000 else 0
def M.offE (v b h o : Int) : Int := if M.offB v b h o then 0 else 2
theorem M.redV_bd (h o : Int) : 0 ≤ M.redV h o ∧ M.redV h o ≤ 1000 := by
  rcases M.red_cases h o with h | ⟨rfl, rfl⟩ | ⟨rfl, rfl⟩ | ⟨rfl, rfl⟩ | ⟨rfl, rfl⟩ | ⟨rfl, rfl⟩ | ⟨rfl, rfl⟩ | ⟨rfl, rfl⟩ | ⟨rfl, rfl⟩ | ⟨rfl, rfl⟩
  · rw [(M.red_no h).1]; omega
  all_goals decide
theorem M.vb_bd {v b : Int} (h : 1 ≤ v ∧ v ≤ 1000000 ∧ 0 ≤ b ∧ b ≤ 1000000000) : 0 ≤ v * b ∧ v * b ≤ 1000000000000000 := by
  refine ⟨Int.mul_nonneg (by omega) (by omega), ?_⟩
  have := Int.mul_le_mul h.2.1 h.2.2.2 h.2.2.1 (by omega)
  omega
theorem M.vbr_bd {v b : Int} (h : 1 ≤ v ∧ v ≤ 1000000 ∧ 0 ≤ b ∧ b ≤ 1000000000) (x o : Int) : 0 ≤ v * b * M.redV x o ∧ v * b * M.redV x o ≤ 1000000000000000000 := by
  have h1 := M.vb_bd h
  have h2 := M.redV_bd x o
  refine ⟨Int.mul_nonneg h1.1 h2.1, ?_⟩
  have := Int.mul_le_mul h1.2 h2.2 h2.1 (by omega)
  omega
theorem M.off_no {v b : Int} (h : v < 1 ∨ 1000000 < v ∨ b < 0 ∨ 1000000000 < b) (x o : Int) : M.offV v b x o = 0 ∧ M.offE v b x o = 2 := by
  have : M.offB v b x o = false := by
    unfold M.offB
    rw [decide_eq_false (by omega)]; rfl
  simp [M.offV, M.offE, this]
theorem M.off_yes {v b : Int} (h : 1 ≤ v ∧ v ≤ 1000000 ∧ 0 ≤ b ∧ b ≤ 1000000000) (x o : Int) : M.offV v b x o = v * b * M.redV x o / 1000000000 ∧ M.offE v b x o = M.redE x o := by
  have e : M.offB v b x o = M.redB x o := by unfold M.offB; rw [decide_eq_true h]; rfl
  unfold M.offV M.offE M.redE
  rw [e]
  cases hr : M.redB x o
  · simp [M.redV, hr]
  · simp

set_option maxHeartbeats 2000000 in
theorem price_any (v b h o : Int) (a1 a2 a3 : Addr) (w : World) (ht : Tab w) (h1 : w.cell? a1 = some (.int .i64 v)) (h2 : w.cell? a2 = some (.int .i64 b)) (h3 : w.cell? a3 = some (.int .i64 h)) :
    Calls Tryd.prog 32 #[.int .i64 o, .pointer (some a1), .pointer (some a2), .pointer (some a3)] w fun e w' => e = .returned (.tuple #[.int .i64 (M.offV v b h o), .int .i64 (M.offE v b h o)]) ∧ ∃ n, w' = w.drewN n := by
  by_cases hv : 1 ≤ v ∧ v ≤ 1000000 ∧ 0 ≤ b ∧ b ≤ 1000000000
  · have fin := Lib.hid (M.off_yes hv h o)
    obtain ⟨b1, b2⟩ := M.vb_bd hv
    obtain ⟨b3, b4⟩ := M.vbr_bd hv h o
    obtain ⟨g1, g2, g3, g4⟩ := hv
    go_enter Tryd.func32, Tryd.ntmps32
    go_wp2_with fail
    refine (reduction_any _ _ _ ht).mono ?_
    rintro e w1 ⟨rfl, n, rfl⟩
    generalize M.redV h o = r at *
    generalize M.redE h o = r' at *
    go_wp2_with fail
    go_ret2
    exact ⟨ret_int2 fin.out.1.symm fin.out.2.symm, _, rfl⟩
  · have hv' : v < 1 ∨ 1000000 < v ∨ b < 0 ∨ 1000000000 < b := by omega
    have fin := Lib.hid (M.off_no hv' h o)
    clear hv ht
    go_enter Tryd.func32, Tryd.ntmps32
    go_wp2_with fail
    all_goals
      go_ret2
      exact ⟨ret_int2 fin.out.1.symm fin.out.2.symm, 0, rfl⟩

set_option maxHeartbeats 2000000 in
theorem offer_any (v b h o : Int) (w : World) (ht : Tab w) :
    Calls Tryd.prog 19 #[.int .i64 v, .int .i64 b, .int .i64 h, .int .i64 o] w fun e w' => e = .returned (.tuple #[.int .i64 (M.offV v b h o), .int .i64 (M.offE v b h o)]) ∧ Below w.heap.size w w' := by
  go_enter Tryd.func19, Tryd.ntmps19
  go_wp2_with (first | (go_at_call 30; go_in))
  have hB : Below w.heap.size w (((w.alloc (.cells #[.int .i64 v] 3)).alloc (.cells #[.int .i64 b] 3)).alloc (.cells #[.int .i64 h] 3)) := (((Below.refl _ _).alloc (Nat.le_refl _) _).alloc (by simp) _).alloc (by simp; omega) _
  refine (price_any v b h o _ _ _ _ (ht.kept hB) ?_ ?_ ?_).mono ?_
  · go_simp
  · go_simp
  · go_simp
  rintro e w1 ⟨rfl, n, rfl⟩
  go_wp2_with fail
  go_ret2
  exact ⟨rfl, below_drewN hB n⟩

set_option maxHeartbeats 2000000 in
theorem refOffer_any (v b h o : Int) (w : World) :
    Calls Tryd.prog 20 #[.int .i64 v, .int .i64 b, .int .i64 h, .int .i64 o] w fun e w' => e = .returned (.tuple #[.int .i64 (M.offV v b h o), .int .i64 (M.offE v b h o)]) ∧ w = w' := by
  by_cases hr : M.redB h o = true
  · have e1 : M.redE h o = 0 := by simp [M.redE, hr]
    by_cases hv : 1 ≤ v ∧ v ≤ 1000000 ∧ 0 ≤ b ∧ b ≤ 1000000000
    · have fin := Lib.hid (M.off_yes hv h o)
      have E1 := Lib.hid e1
      obtain ⟨b1, b2⟩ := M.vb_bd hv
      obtain ⟨b3, b4⟩ := M.vbr_bd hv h o
      obtain ⟨g1, g2, g3, g4⟩ := hv
      clear hr e1
      go_enter Tryd.func20, Tryd.ntmps20
      go_wp2_with fail
      refine (refReduction_any _ _ _).mono ?_
      rintro e w1 ⟨rfl, rfl⟩
      rw [E1.out]
      generalize M.redV h o = r at *
      go_wp2_with fail
      go_ret2
      exact ⟨ret_int2 fin.out.1.symm (by rw [fin.out.2, E1.out]), rfl⟩
    · have hv' : v < 1 ∨ 1000000 < v ∨ b < 0 ∨ 1000000000 < b := by omega
      have fin := Lib.hid (M.off_no hv' h o)
      have E1 := Lib.hid e1
      clear hv hr e1
      go_enter Tryd.func20, Tryd.ntmps20
      go_wp2_with fail
      refine (refReduction_any _ _ _).mono ?_
      rintro e w1 ⟨rfl, rfl⟩
      rw [E1.out]
      go_wp2_with fail
      all_goals
        go_ret2
        exact ⟨ret_int2 fin.out.1.symm fin.out.2.symm, rfl⟩
  · have e1 : M.redE h o = 2 := by simp [M.redE, hr]
    have fin : Hid (M.offV v b h o = 0 ∧ M.offE v b h o = 2) := Lib.hid (by simp [M.offV, M.offE, M.offB, hr])
    have E1 := Lib.hid e1
    clear hr e1
    go_enter Tryd.func20, Tryd.ntmps20
    go_wp2_with fail
    refine (refReduction_any _ _ _).mono ?_
    rintro e w1 ⟨rfl, rfl⟩
    rw [E1.out]
    go_wp2_with fail
    go_ret2
    exact ⟨ret_int2 fin.out.1.symm fin.out.2.symm, rfl⟩
end Go.Proofs.YtpbcbomlhcbfjaaDoor
