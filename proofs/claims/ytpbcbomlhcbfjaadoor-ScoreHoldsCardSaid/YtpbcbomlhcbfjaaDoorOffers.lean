/- The contracts of score.Offers and of its reference. -/
import Derived.Test.YtpbcbomlhcbfjaaDoorOffer
namespace Go.Proofs.YtpbcbomlhcbfjaaDoor
open Go Go.RowKit

theorem intInfo : (Tryd.prog.info? 3).map (fun i => (i.zero, i.size, i.bytes)) = some (some (.int .i64 0), 1, 8) := by kernel_rfl

/-- All arguments are allowed. -/
def M.offsB (v b h : Int) : Bool := M.offB v b h 0
/-- The first k prices. -/
def M.offsTo (v b h : Int) (k : Nat) : List Int := (List.range k).map fun (o : Nat) => M.offV v b h (o : Int)
def M.offs (v b h : Int) : List Int := if M.offsB v b h then M.offsTo v b h (h.toNat + 1) else []
def M.offsE (v b h : Int) : Int := if M.offsB v b h then 0 else 2
theorem M.offsTo_succ (v b h : Int) (k : Nat) : M.offsTo v b h (k + 1) = M.offsTo v b h k ++ [M.offV v b h (k : Int)] := by
  unfold M.offsTo; rw [List.range_succ]; simp
theorem M.offsTo_length (v b h : Int) (k : Nat) : (M.offsTo v b h k).length = k := by simp [M.offsTo]
theorem M.offsB_iff (v b h : Int) : M.offsB v b h = true ↔ (1 ≤ v ∧ v ≤ 1000000 ∧ 0 ≤ b ∧ b ≤ 1000000000) ∧ 1 ≤ h ∧ h ≤ 3 := by
  unfold M.offsB M.offB M.redB
  simp only [Bool.and_eq_true, decide_eq_true_eq]
  omega
theorem M.offE_of {v b h o : Int} (hs : M.offsB v b h = true) (h0 : 0 ≤ o) (h1 : o ≤ h) : M.offE v b h o = 0 := by
  have := (M.offsB_iff v b h).1 hs
  have e : M.offB v b h o = true := by
    unfold M.offB M.redB
    simp only [Bool.and_eq_true, decide_eq_true_eq]
    omega
  simp [M.offE, e]
theorem M.offE_no {v b h : Int} (hs : M.offsB v b h = false) : M.offE v b h 0 = 2 := by
  unfold M.offE; rw [show M.offB v b h 0 = false from hs]; rfl

def M.homeB (n : Int) : Bool := decide (1 ≤ n ∧ n ≤ 3)
theorem isHome_any (n : Int) (w : World) :
    Calls Tryd.prog 27 #[.int .i64 n] w fun e w' => e = .returned (.bool (M.homeB n)) ∧ w = w' := by
  go_enter Tryd.func27, Tryd.ntmps27
  go_wp2
  all_goals
    go_ret
    exact ⟨ret_bool (by unfold M.homeB; rw [Bool.eq_iff_iff]; simp; omega), rfl⟩
theorem isHome_eq {n : Int} {b : Bool} (h : M.homeB n = b) (w : World) :
    Calls Tryd.prog 27 #[.int .i64 n] w fun e w' => e = .returned (.bool b) ∧ w = w' := h ▸ isHome_any n w

def PricesPost (v b h : Int) (w : World) (e : Ending) (w' : World) : Prop := ∃ a1 a2 a3 : Nat, e = .returned (.func (.func 32) #[] #[.pointer (some ⟨a1, 0, none⟩), .pointer (some ⟨a2, 0, none⟩), .pointer (some ⟨a3, 0, none⟩)]) ∧ w'.cell? ⟨a1, 0, none⟩ = some (.int .i64 v) ∧ w'.cell? ⟨a2, 0, none⟩ = some (.int .i64 b) ∧ w'.cell? ⟨a3, 0, none⟩ = some (.int .i64 h) ∧ a1 < w'.heap.size ∧ a2 < w'.heap.size ∧ a3 < w'.heap.size ∧ Below w.heap.size w w'
theorem prices_any (v b h : Int) (w : World) :
    Calls Tryd.prog 30 #[.int .i64 v, .int .i64 b, .int .i64 h] w (PricesPost v b h w) := by
  go_enter Tryd.func30, Tryd.ntmps30
  go_wp2
  go_ret
  refine ⟨_, _, _, rfl, ?_, ?_, ?_, ?_, ?_, ?_, (((Below.refl _ _).alloc (Nat.le_refl _) _).alloc (by simp) _).alloc (by simp; omega) _⟩
  all_goals go_simp
  all_goals omega

set_option maxHeartbeats 4000000 in
theorem offers_any (v b h : Int) (w : World) (ht : Tab w) :
    Calls Tryd.prog 21 #[.int .i64 v, .int .i64 b, .int .i64 h] w (RetL 1 icell w (M.offs v b h) (M.offsE v b h)) := by
  obtain ⟨i0, hi, hz0, hz1, hz2⟩ := info_parts intInfo
  by_cases hh : 1 ≤ h ∧ h ≤ 3
  · have hhome := Lib.hid (show M.homeB h = true from decide_eq_true hh)
    obtain ⟨hh1, hh2⟩ := hh
    have Hi := Lib.hid hi; have Hz0 := Lib.hid hz0; have Hz1 := Lib.hid hz1; have Hz2 := Lib.hid hz2
    clear hi hz0 hz1 hz2
    go_enter Tryd.func21, Tryd.ntmps21
    go_wp2_with fail
    refine (isHome_eq hhome.out _).mono ?_
    rintro e w1 ⟨rfl, rfl⟩
    go_wp2_with fail
    refine (prices_any v b h _).mono ?_
    rintro e w1 ⟨a1, a2, a3, rfl, c1, c2, c3, l1, l2, l3, hB⟩
    have ht1 := ht.kept hB
    cases hv : M.offsB v b h
    · -- the first price is an error
      have hE := Lib.hid (M.offE_no hv)
      have hV : Hid (M.offs v b h = [] ∧ M.offsE v b h = 2) := Lib.hid (by simp [M.offs, M.offsE, hv])
      clear hv
      go_wp2_with fail
      refine wp_loop_rounds 1 ?_
      rw [rounds_succ]
      go_wp2_with fail
      refine (price_any v b h 0 _ _ _ _ ht1 c1 c2 c3).mono ?_
      rintro e w2 ⟨rfl, n, rfl⟩
      rw [hE.out]
      go_wp2_with fail
      go_ret2
      rw [hV.out.1, hV.out.2]
      exact RetL.none (below_drewN hB n)
    · have hV : Hid (M.offs v b h = M.offsTo v b h (h.toNat + 1) ∧ M.offsE v b h = 0) := Lib.hid (by simp [M.offs, M.offsE, hv])
      have HV := Lib.hid hv
      clear hv
      go_wp2_with fail
      go_loopw [9, 10] (fun s i wr => ∃ k : Nat, (k : Int) ≤ h + 1 ∧ i = .int .i64 k ∧ wr.ownsRow w1.heap.size 3 1 s k (flat 1 icell (M.offsTo v b h k)) ∧ Below w1.heap.size w1 wr) (fun _ i _ => (h + 1 - intOf i).toNat)
      case atStart => exact ⟨0, by omega, rfl, own_nil _ _ _ _ _, Below.refl _ _⟩
      case round =>
        obtain ⟨k, hk, rfl, hown, hb⟩ := hrel
        by_cases hlt : (k : Int) ≤ h
        · have hE := Lib.hid (M.offE_of HV.out (by omega : (0 : Int) ≤ (k : Int)) hlt)
          have d1 : wr.cell? ⟨a1, 0, none⟩ = some (.int .i64 v) := (hb.cell (p := ⟨a1, 0, none⟩) l1).trans c1
          have d2 : wr.cell? ⟨a2, 0, none⟩ = some (.int .i64 b) := (hb.cell (p := ⟨a2, 0, none⟩) l2).trans c2
          have d3 : wr.cell? ⟨a3, 0, none⟩ = some (.int .i64 h) := (hb.cell (p := ⟨a3, 0, none⟩) l3).trans c3
          go_wp2_with fail
          refine (price_any v b h k _ _ _ _ (ht1.kept hb) d1 d2 d3).mono ?_
          rintro e w2 ⟨rfl, n, rfl⟩
          rw [hE.out]
          obtain ⟨y, hy⟩ : ∃ y, M.offV v b h k = y := ⟨_, rfl⟩
          rw [hy]
          have HY := Lib.hid hy
          clear hy
          go_wp2_with (at_builtin; refine wpList_push (w0 := w1) (cell := icell) (y := y) rfl _ _ _ rfl w1.heap.size w1.heap.size 3 i0 _ 8 Tryd.underlying49 Hi.out Hz0.out Hz1.out Hz2.out rfl (by decide) _ k _ rfl (ownsRow_drewN hown n) _ _ rfl _ rfl (fun _ => rfl) (by unfold maxLen; omega) (by omega) hb.size (Nat.le_refl _) (below_drewN hb n) ?_; intro v' w' hown' hb' _)
          go_roundw
          case rel => exact ⟨k + 1, by omega, by go_num, by rw [M.offsTo_succ, HY.out]; exact hown', hb'⟩
          case measure => simp [intOf]; omega
        · have hkh : k = h.toNat + 1 := by omega
          have HK := Lib.hid hkh
          clear hkh
          go_wp2_with fail
          go_ret2
          rw [hV.out.1, hV.out.2, ← HK.out]
          exact RetL.of (by decide) hown (after_ hB hb)
  · have hhome := Lib.hid (show M.homeB h = false from decide_eq_false hh)
    have hV : Hid (M.offs v b h = [] ∧ M.offsE v b h = 2) := Lib.hid (by
      have : M.offsB v b h = false := by
        cases e : M.offsB v b h
        · rfl
        · exact absurd ((M.offsB_iff v b h).1 e).2 hh
      simp [M.offs, M.offsE, this])
    clear hh hi hz0 hz1 hz2
    go_enter Tryd.func21, Tryd.ntmps21
    go_wp2_with fail
    refine (isHome_eq hhome.out _).mono ?_
    rintro e w1 ⟨rfl, rfl⟩
    go_wp2_with fail
    go_ret2
    rw [hV.out.1, hV.out.2]
    exact RetL.none (Below.refl _ _)

set_option maxHeartbeats 4000000 in
theorem refOffers_any (v b h : Int) (w : World) :
    Calls Tryd.prog 22 #[.int .i64 v, .int .i64 b, .int .i64 h] w (RetL 1 icell w (M.offs v b h) (M.offsE v b h)) := by
  obtain ⟨i0, hi, hz0, hz1, hz2⟩ := info_parts intInfo
  have Hi := Lib.hid hi; have Hz0 := Lib.hid hz0; have Hz1 := Lib.hid hz1; have Hz2 := Lib.hid hz2
  clear hi hz0 hz1 hz2
  cases hv : M.offsB v b h
  · have hE := Lib.hid (M.offE_no hv)
    have hV : Hid (M.offs v b h = [] ∧ M.offsE v b h = 2) := Lib.hid (by simp [M.offs, M.offsE, hv])
    clear hv
    go_enter Tryd.func22, Tryd.ntmps22
    go_wp2_with fail
    refine (refOffer_any v b h 0 _).mono ?_
    rintro e w2 ⟨rfl, rfl⟩
    rw [hE.out]
    go_wp2_with fail
    go_ret2
    rw [hV.out.1, hV.out.2]
    exact RetL.none (Below.refl _ _)
  · have hV : Hid (M.offs v b h = M.offsTo v b h (h.toNat + 1) ∧ M.offsE v b h = 0) := Lib.hid (by simp [M.offs, M.offsE, hv])
    obtain ⟨_, hh1, hh2⟩ := (M.offsB_iff v b h).1 hv
    have hE0 := Lib.hid (M.offE_of hv (Int.le_refl 0) (by omega))
    have HV := Lib.hid hv
    clear hv
    go_enter Tryd.func22, Tryd.ntmps22
    go_wp2_with fail
    refine (refOffer_any v b h 0 _).mono ?_
    rintro e w2 ⟨rfl, rfl⟩
    rw [hE0.out]
    go_wp2_with fail
    go_loopw [10, 11] (fun s i wr => ∃ k : Nat, (k : Int) ≤ h + 1 ∧ i = .int .i64 k ∧ wr.ownsRow w.heap.size 3 1 s k (flat 1 icell (M.offsTo v b h k)) ∧ Below w.heap.size w wr) (fun _ i _ => (h + 1 - intOf i).toNat)
    case atStart => exact ⟨0, by omega, rfl, own_nil _ _ _ _ _, Below.refl _ _⟩
    case round =>
      obtain ⟨k, hk, rfl, hown, hb⟩ := hrel
      by_cases hlt : (k : Int) ≤ h
      · have hE := Lib.hid (M.offE_of HV.out (by omega : (0 : Int) ≤ (k : Int)) hlt)
        go_wp2_with fail
        refine (refOffer_any v b h k _).mono ?_
        rintro e w2 ⟨rfl, rfl⟩
        rw [hE.out]
        obtain ⟨y, hy⟩ : ∃ y, M.offV v b h k = y := ⟨_, rfl⟩
        rw [hy]
        have HY := Lib.hid hy
        clear hy
        go_wp2_with (at_builtin; refine wpList_push (w0 := w) (cell := icell) (y := y) rfl _ _ _ rfl w.heap.size w.heap.size 3 i0 _ 8 Tryd.underlying49 Hi.out Hz0.out Hz1.out Hz2.out rfl (by decide) _ k _ rfl hown _ _ rfl _ rfl (fun _ => rfl) (by unfold maxLen; omega) (by omega) hb.size (Nat.le_refl _) hb ?_; intro v' w' hown' hb' _)
        go_roundw
        case rel => exact ⟨k + 1, by omega, by go_num, by rw [M.offsTo_succ, HY.out]; exact hown', hb'⟩
        case measure => simp [intOf]; omega
      · have hkh : k = h.toNat + 1 := by omega
        have HK := Lib.hid hkh
        clear hkh
        go_wp2_with fail
        go_ret2
        rw [hV.out.1, hV.out.2, ← HK.out]
        exact RetL.of (by decide) hown hb
end Go.Proofs.YtpbcbomlhcbfjaaDoor
