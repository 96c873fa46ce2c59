/- A bundle of texts: ScOffer, ScOffers. -/
import Derived.Test.YtciolgmljpamlaaGreatDoorB27
/- The contracts of score.Reduction, score.Offer and their references. -/
section
namespace Go.Proofs.YtciolgmljpamlaaGreatDoor
open Go Go.RowKit
set_option maxRecDepth 100000

/-- The table of worths lies in its variable. -/
structure TabW (w : World) : Prop where
  c0 : w.cell? ⟨0, 0, none⟩ = some (.int .i64 0)
  c1 : w.cell? ⟨0, 1, none⟩ = some (.int .i64 250)
  c2 : w.cell? ⟨0, 2, none⟩ = some (.int .i64 600)
  c3 : w.cell? ⟨0, 3, none⟩ = some (.int .i64 1000)
theorem TabW.below {w w' : World} {B : Nat} (h : TabW w) (hb : Below B w w') (h0 : 0 < B) : TabW w' :=
  ⟨(hb.cell (p := ⟨_, _, _⟩) h0).trans h.c0, (hb.cell (p := ⟨_, _, _⟩) h0).trans h.c1, (hb.cell (p := ⟨_, _, _⟩) h0).trans h.c2, (hb.cell (p := ⟨_, _, _⟩) h0).trans h.c3⟩
theorem TabW.pos {w : World} (h : TabW w) : 0 < w.heap.size := by
  have := h.c0
  apply Nat.lt_of_not_le; intro hle
  simp [World.cell?, Array.getElem?_eq_none hle] at this
theorem TabW.drewN {w : World} (h : TabW w) (n : Nat) : TabW (w.drewN n) := ⟨h.c0, h.c1, h.c2, h.c3⟩
theorem TabW.kept {w w' : World} (h : TabW w) (hb : Below w.heap.size w w') : TabW w' := h.below hb h.pos

/-- The worth of a band. -/
def M.worth (b : Int) : Int := if b = 1 then 250 else if b = 2 then 600 else if b = 3 then 1000 else 0
def M.redB (home option : Int) : Bool := decide (1 ≤ home ∧ home ≤ 3 ∧ 0 ≤ option ∧ option ≤ home)
def M.redV (home option : Int) : Int := if M.redB home option then M.worth home - M.worth option else 0
def M.redE (home option : Int) : Int := if M.redB home option then 0 else 2

theorem M.red_cases (home option : Int) : (home < 1 ∨ 3 < home ∨ option < 0 ∨ home < option) ∨ (home = 1 ∧ option = 0) ∨ (home = 1 ∧ option = 1) ∨ (home = 2 ∧ option = 0) ∨ (home = 2 ∧ option = 1) ∨ (home = 2 ∧ option = 2) ∨ (home = 3 ∧ option = 0) ∨ (home = 3 ∧ option = 1) ∨ (home = 3 ∧ option = 2) ∨ (home = 3 ∧ option = 3) := by omega
theorem M.red_no {home option : Int} (h : home < 1 ∨ 3 < home ∨ option < 0 ∨ home < option) : M.redV home option = 0 ∧ M.redE home option = 2 := by
  have : M.redB home option = false := by unfold M.redB; rw [decide_eq_false_iff_not]; omega
  simp [M.redV, M.redE, this]

set_option maxHeartbeats 2000000 in
theorem reduction_any (home option : Int) (w : World) (ht : TabW w) :
    Calls Tryz.prog 118 #[.int .i64 home, .int .i64 option] w fun e w' => e = .returned (.tuple #[.int .i64 (M.redV home option), .int .i64 (M.redE home option)]) ∧ ∃ n, w' = w.drewN n := by
  obtain ⟨t0, t1, t2, t3⟩ := ht
  rcases M.red_cases home option with h | ⟨rfl, rfl⟩ | ⟨rfl, rfl⟩ | ⟨rfl, rfl⟩ | ⟨rfl, rfl⟩ | ⟨rfl, rfl⟩ | ⟨rfl, rfl⟩ | ⟨rfl, rfl⟩ | ⟨rfl, rfl⟩ | ⟨rfl, rfl⟩
  · have fin := Lib.hid (M.red_no h)
    clear t0 t1 t2 t3
    go_enter Tryz.func118, Tryz.ntmps118
    go_wp2
    all_goals
      go_ret2
      exact ⟨ret_int2 fin.out.1.symm fin.out.2.symm, 0, rfl⟩
  all_goals
    go_enter Tryz.func118, Tryz.ntmps118
    go_wp2
    go_quiet (fail)
    go_wp2
    go_ret2
    exact ⟨ret_int2 (by decide) (by decide), _, rfl⟩

def M.offB (v b h o : Int) : Bool := decide (1 ≤ v ∧ v ≤ 1000000 ∧ 0 ≤ b ∧ b ≤ 1000000000) && M.redB h o
def M.offV (v b h o : Int) : Int := if M.offB v b h o then v * b * M.redV h o / 1000000000 else 0
def M.offE (v b h o : Int) : Int := if M.offB v b h o then 0 else 2
theorem M.redV_bd (h o : Int) : 0 ≤ M.redV h o ∧ M.redV h o ≤ 1000 := by
  rcases M.red_cases h o with h | ⟨rfl, rfl⟩ | ⟨rfl, rfl⟩ | ⟨rfl, rfl⟩ | ⟨rfl, rfl⟩ | ⟨rfl, rfl⟩ | ⟨rfl, rfl⟩ | ⟨rfl, rfl⟩ | ⟨rfl, rfl⟩ | ⟨rfl, rfl⟩
  · rw [(M.red_no h).1]; omega
  all_goals decide
theorem M.vb_bd {v b : Int} (h : 1 ≤ v ∧ v ≤ 1000000 ∧ 0 ≤ b ∧ b ≤ 1000000000) : 0 ≤ v * b ∧ v * b ≤ 1000000000000000 := by
  refine ⟨Int.mul_nonneg (by omega) (by omega), ?_⟩
  have := Int.mul_le_mul h.2.1 h.2.2.2 h.2.2.1 (by omega)
  omega
theorem M.vbr_bd {v b : Int} (h : 1 ≤ v ∧ v ≤ 1000000 ∧ 0 ≤ b ∧ b ≤ 1000000000) (x o : Int) : 0 ≤ v * b * M.redV x o ∧ v * b * M.redV x o ≤ 1000000000000000000 := by
  have h1 := M.vb_bd h
  have h2 := M.redV_bd x o
  refine ⟨Int.mul_nonneg h1.1 h2.1, ?_⟩
  have := Int.mul_le_mul h1.2 h2.2 h2.1 (by omega)
  omega
theorem M.off_no {v b : Int} (h : v < 1 ∨ 1000000 < v ∨ b < 0 ∨ 1000000000 < b) (x o : Int) : M.offV v b x o = 0 ∧ M.offE v b x o = 2 := by
  have : M.offB v b x o = false := by
    unfold M.offB
    rw [decide_eq_false (by omega)]; rfl
  simp [M.offV, M.offE, this]
theorem M.off_yes {v b : Int} (h : 1 ≤ v ∧ v ≤ 1000000 ∧ 0 ≤ b ∧ b ≤ 1000000000) (x o : Int) : M.offV v b x o = v * b * M.redV x o / 1000000000 ∧ M.offE v b x o = M.redE x o := by
  have e : M.offB v b x o = M.redB x o := by unfold M.offB; rw [decide_eq_true h]; rfl
  unfold M.offV M.offE M.redE
  rw [e]
  cases hr : M.redB x o
  · simp [M.redV, hr]
  · simp

set_option maxHeartbeats 2000000 in
theorem price_any (v b h o : Int) (a1 a2 a3 : Addr) (w : World) (ht : TabW w) (h1 : w.cell? a1 = some (.int .i64 v)) (h2 : w.cell? a2 = some (.int .i64 b)) (h3 : w.cell? a3 = some (.int .i64 h)) :
    Calls Tryz.prog 117 #[.int .i64 o, .pointer (some a1), .pointer (some a2), .pointer (some a3)] w fun e w' => e = .returned (.tuple #[.int .i64 (M.offV v b h o), .int .i64 (M.offE v b h o)]) ∧ ∃ n, w' = w.drewN n := by
  by_cases hv : 1 ≤ v ∧ v ≤ 1000000 ∧ 0 ≤ b ∧ b ≤ 1000000000
  · have fin := Lib.hid (M.off_yes hv h o)
    obtain ⟨b1, b2⟩ := M.vb_bd hv
    obtain ⟨b3, b4⟩ := M.vbr_bd hv h o
    obtain ⟨g1, g2, g3, g4⟩ := hv
    go_enter Tryz.func117, Tryz.ntmps117
    go_wp2_with fail
    refine (reduction_any _ _ _ ht).mono ?_
    rintro e w1 ⟨rfl, n, rfl⟩
    generalize M.redV h o = r at *
    generalize M.redE h o = r' at *
    go_wp2_with fail
    go_ret2
    exact ⟨ret_int2 fin.out.1.symm fin.out.2.symm, _, rfl⟩
  · have hv' : v < 1 ∨ 1000000 < v ∨ b < 0 ∨ 1000000000 < b := by omega
    have fin := Lib.hid (M.off_no hv' h o)
    clear hv ht
    go_enter Tryz.func117, Tryz.ntmps117
    go_wp2_with fail
    all_goals
      go_ret2
      exact ⟨ret_int2 fin.out.1.symm fin.out.2.symm, 0, rfl⟩

set_option maxHeartbeats 2000000 in
theorem offer_any (v b h o : Int) (w : World) (ht : TabW w) :
    Calls Tryz.prog 34 #[.int .i64 v, .int .i64 b, .int .i64 h, .int .i64 o] w fun e w' => e = .returned (.tuple #[.int .i64 (M.offV v b h o), .int .i64 (M.offE v b h o)]) ∧ Below w.heap.size w w' := by
  go_enter Tryz.func34, Tryz.ntmps34
  go_wp2_with (first | (go_at_call 86; go_in))
  have hB : Below w.heap.size w (((w.alloc (.cells #[.int .i64 v] 3)).alloc (.cells #[.int .i64 b] 3)).alloc (.cells #[.int .i64 h] 3)) := (((Below.refl _ _).alloc (Nat.le_refl _) _).alloc (by simp) _).alloc (by simp; omega) _
  refine (price_any v b h o _ _ _ _ (ht.kept hB) ?_ ?_ ?_).mono ?_
  · go_simp
  · go_simp
  · go_simp
  rintro e w1 ⟨rfl, n, rfl⟩
  go_wp2_with fail
  go_ret2
  exact ⟨rfl, below_drewN hB n⟩

end Go.Proofs.YtciolgmljpamlaaGreatDoor
end

/- The contracts of score.Offers and of its reference. -/
section
namespace Go.Proofs.YtciolgmljpamlaaGreatDoor
open Go Go.RowKit
set_option maxRecDepth 100000

theorem intInfoW : (Tryz.prog.info? 3).map (fun i => (i.zero, i.size, i.bytes)) = some (some (.int .i64 0), 1, 8) := by kernel_rfl

/-- All arguments are allowed. -/
def M.offsB (v b h : Int) : Bool := M.offB v b h 0
/-- The first k prices. -/
def M.offsTo (v b h : Int) (k : Nat) : List Int := (List.range k).map fun (o : Nat) => M.offV v b h (o : Int)
def M.offs (v b h : Int) : List Int := if M.offsB v b h then M.offsTo v b h (h.toNat + 1) else []
def M.offsE (v b h : Int) : Int := if M.offsB v b h then 0 else 2
theorem M.offsTo_succ (v b h : Int) (k : Nat) : M.offsTo v b h (k + 1) = M.offsTo v b h k ++ [M.offV v b h (k : Int)] := by
  unfold M.offsTo; rw [List.range_succ]; simp
theorem M.offsTo_length (v b h : Int) (k : Nat) : (M.offsTo v b h k).length = k := by simp [M.offsTo]
theorem M.offsB_iff (v b h : Int) : M.offsB v b h = true ↔ (1 ≤ v ∧ v ≤ 1000000 ∧ 0 ≤ b ∧ b ≤ 1000000000) ∧ 1 ≤ h ∧ h ≤ 3 := by
  unfold M.offsB M.offB M.redB
  simp only [Bool.and_eq_true, decide_eq_true_eq]
  omega
theorem M.offE_of {v b h o : Int} (hs : M.offsB v b h = true) (h0 : 0 ≤ o) (h1 : o ≤ h) : M.offE v b h o = 0 := by
  have := (M.offsB_iff v b h).1 hs
  have e : M.offB v b h o = true := by
    unfold M.offB M.redB
    simp only [Bool.and_eq_true, decide_eq_true_eq]
    omega
  simp [M.offE, e]
theorem M.offE_no {v b h : Int} (hs : M.offsB v b h = false) : M.offE v b h 0 = 2 := by
  unfold M.offE; rw [show M.offB v b h 0 = false from hs]; rfl

def M.homeB (n : Int) : Bool := decide (1 ≤ n ∧ n ≤ 3)
theorem isHome_any (n : Int) (w : World) :
    Calls Tryz.prog 87 #[.int .i64 n] w fun e w' => e = .returned (.bool (M.homeB n)) ∧ w = w' := by
  go_enter Tryz.func87, Tryz.ntmps87
  go_wp2
  all_goals
    go_ret
    exact ⟨ret_bool (by unfold M.homeB; rw [Bool.eq_iff_iff]; simp; omega), rfl⟩
theorem isHome_eq {n : Int} {b : Bool} (h : M.homeB n = b) (w : World) :
    Calls Tryz.prog 87 #[.int .i64 n] w fun e w' => e = .returned (.bool b) ∧ w = w' := h ▸ isHome_any n w

def PricesPost (v b h : Int) (w : World) (e : Ending) (w' : World) : Prop := ∃ a1 a2 a3 : Nat, e = .returned (.func (.func 117) #[] #[.pointer (some ⟨a1, 0, none⟩), .pointer (some ⟨a2, 0, none⟩), .pointer (some ⟨a3, 0, none⟩)]) ∧ w'.cell? ⟨a1, 0, none⟩ = some (.int .i64 v) ∧ w'.cell? ⟨a2, 0, none⟩ = some (.int .i64 b) ∧ w'.cell? ⟨a3, 0, none⟩ = some (.int .i64 h) ∧ a1 < w'.heap.size ∧ a2 < w'.heap.size ∧ a3 < w'.heap.size ∧ Below w.heap.size w w'
theorem prices_any (v b h : Int) (w : World) :
    Calls Tryz.prog 86 #[.int .i64 v, .int .i64 b, .int .i64 h] w (PricesPost v b h w) := by
  go_enter Tryz.func86, Tryz.ntmps86
  go_wp2
  go_ret
  refine ⟨_, _, _, rfl, ?_, ?_, ?_, ?_, ?_, ?_, (((Below.refl _ _).alloc (Nat.le_refl _) _).alloc (by simp) _).alloc (by simp; omega) _⟩
  all_goals go_simp
  all_goals omega

set_option maxHeartbeats 4000000 in
theorem offers_any (v b h : Int) (w : World) (ht : TabW w) :
    Calls Tryz.prog 35 #[.int .i64 v, .int .i64 b, .int .i64 h] w (RetL 1 icell w (M.offs v b h) (M.offsE v b h)) := by
  obtain ⟨i0, hi, hz0, hz1, hz2⟩ := info_parts intInfoW
  by_cases hh : 1 ≤ h ∧ h ≤ 3
  · have hhome := Lib.hid (show M.homeB h = true from decide_eq_true hh)
    obtain ⟨hh1, hh2⟩ := hh
    have Hi := Lib.hid hi; have Hz0 := Lib.hid hz0; have Hz1 := Lib.hid hz1; have Hz2 := Lib.hid hz2
    clear hi hz0 hz1 hz2
    go_enter Tryz.func35, Tryz.ntmps35
    go_wp2_with fail
    refine (isHome_eq hhome.out _).mono ?_
    rintro e w1 ⟨rfl, rfl⟩
    go_wp2_with fail
    refine (prices_any v b h _).mono ?_
    rintro e w1 ⟨a1, a2, a3, rfl, c1, c2, c3, l1, l2, l3, hB⟩
    have ht1 := ht.kept hB
    cases hv : M.offsB v b h
    · -- the first price is an error
      have hE := Lib.hid (M.offE_no hv)
      have hV : Hid (M.offs v b h = [] ∧ M.offsE v b h = 2) := Lib.hid (by simp [M.offs, M.offsE, hv])
      clear hv
      go_wp2_with fail
      refine wp_loop_rounds 1 ?_
      rw [rounds_succ]
      go_wp2_with fail
      refine (price_any v b h 0 _ _ _ _ ht1 c1 c2 c3).mono ?_
      rintro e w2 ⟨rfl, n, rfl⟩
      rw [hE.out]
      go_wp2_with fail
      go_ret2
      rw [hV.out.1, hV.out.2]
      exact RetL.none (below_drewN hB n)
    · have hV : Hid (M.offs v b h = M.offsTo v b h (h.toNat + 1) ∧ M.offsE v b h = 0) := Lib.hid (by simp [M.offs, M.offsE, hv])
      have HV := Lib.hid hv
      clear hv
      go_wp2_with fail
      go_loopw [9, 10] (fun s i wr => ∃ k : Nat, (k : Int) ≤ h + 1 ∧ i = .int .i64 k ∧ wr.ownsRow w1.heap.size 3 1 s k (flat 1 icell (M.offsTo v b h k)) ∧ Below w1.heap.size w1 wr) (fun _ i _ => (h + 1 - intOf i).toNat)
      case atStart => exact ⟨0, by omega, rfl, own_nil _ _ _ _ _, Below.refl _ _⟩
      case round =>
        obtain ⟨k, hk, rfl, hown, hb⟩ := hrel
        by_cases hlt : (k : Int) ≤ h
        · have hE := Lib.hid (M.offE_of HV.out (by omega : (0 : Int) ≤ (k : Int)) hlt)
          have d1 : wr.cell? ⟨a1, 0, none⟩ = some (.int .i64 v) := (hb.cell (p := ⟨a1, 0, none⟩) l1).trans c1
          have d2 : wr.cell? ⟨a2, 0, none⟩ = some (.int .i64 b) := (hb.cell (p := ⟨a2, 0, none⟩) l2).trans c2
          have d3 : wr.cell? ⟨a3, 0, none⟩ = some (.int .i64 h) := (hb.cell (p := ⟨a3, 0, none⟩) l3).trans c3
          go_wp2_with fail
          refine (price_any v b h k _ _ _ _ (ht1.kept hb) d1 d2 d3).mono ?_
          rintro e w2 ⟨rfl, n, rfl⟩
          rw [hE.out]
          obtain ⟨y, hy⟩ : ∃ y, M.offV v b h k = y := ⟨_, rfl⟩
          rw [hy]
          have HY := Lib.hid hy
          clear hy
          go_wp2_with (at_builtin; refine wpList_push (w0 := w1) (cell := icell) (y := y) rfl _ _ _ rfl w1.heap.size w1.heap.size 3 i0 _ 8 Tryz.underlying22 Hi.out Hz0.out Hz1.out Hz2.out rfl (by decide) _ k _ rfl (ownsRow_drewN hown n) _ _ rfl _ rfl (fun _ => rfl) (by unfold maxLen; omega) (by omega) hb.size (Nat.le_refl _) (below_drewN hb n) ?_; intro v' w' hown' hb' _)
          go_roundw
          case rel => exact ⟨k + 1, by omega, by go_num, by rw [M.offsTo_succ, HY.out]; exact hown', hb'⟩
          case measure => simp [intOf]; omega
        · have hkh : k = h.toNat + 1 := by omega
          have HK := Lib.hid hkh
          clear hkh
          go_wp2_with fail
          go_ret2
          rw [hV.out.1, hV.out.2, ← HK.out]
          exact RetL.of (by decide) hown (after_ hB hb)
  · have hhome := Lib.hid (show M.homeB h = false from decide_eq_false hh)
    have hV : Hid (M.offs v b h = [] ∧ M.offsE v b h = 2) := Lib.hid (by
      have : M.offsB v b h = false := by
        cases e : M.offsB v b h
        · rfl
        · exact absurd ((M.offsB_iff v b h).1 e).2 hh
      simp [M.offs, M.offsE, this])
    clear hh hi hz0 hz1 hz2
    go_enter Tryz.func35, Tryz.ntmps35
    go_wp2_with fail
    refine (isHome_eq hhome.out _).mono ?_
    rintro e w1 ⟨rfl, rfl⟩
    go_wp2_with fail
    go_ret2
    rw [hV.out.1, hV.out.2]
    exact RetL.none (Below.refl _ _)

end Go.Proofs.YtciolgmljpamlaaGreatDoor
end
