/- The contracts of the reference's Tenth and Order (against ten). -/
import Derived.Test.YtpbcbomlhcbfjaaRefA
namespace Go.Proofs.Ytpbcbomlhcbfjaa
open Go Go.RowKit

def RetT (w : World) (n : Nat) (e : Ending) (w' : World) : Prop := ∃ A c, e = .returned (.tuple #[.slice A (M.lb (n / 10)).length c, .int .i64 ((n % 10 : Nat) : Int)]) ∧ Sl 1 bc w' w'.heap.size A (M.lb (n / 10)) ∧ Below w.heap.size w w'

set_option maxHeartbeats 2000000 in
theorem tenth_any (A : Option Addr) (c : Nat) (n : Nat) (w : World) (ha : Sl 1 bc w w.heap.size A (M.lb n)) (hl : (M.lb n).length ≤ 1000) :
    Calls Try.prog 30 #[.slice A (M.lb n).length c] w (RetT w n) := by
  have hv := M.lb_val n
  have ht := M.lb_lt n
  generalize M.lb n = xs at *
  have HV := Lib.hid hv
  have HT := Lib.hid ht
  clear hv ht
  obtain ⟨i0, hi, hz0, hz1, hz2⟩ := info_parts u8Info
  have Hi := Lib.hid hi; have Hz0 := Lib.hid hz0; have Hz1 := Lib.hid hz1; have Hz2 := Lib.hid hz2
  clear hi hz0 hz1 hz2
  go_enter Try.func30, Try.ntmps30
  go_wp2_with (at_make; refine wpList_make_full _ rfl _ _ 55 rfl w.heap.size 5 i0 _ 1 Try.underlying55 Hi.out Hz0.out Hz1.out .i64 .i64 _ _ xs.length rfl rfl rfl rfl (by rw [Hz2.out]; omega) (by unfold maxLen; omega) (Nat.le_refl _) ?_; intro w2 hown hg)
  have em := made_flat (cell := bc) (size := 1) (x0 := 0) (by decide) (Value.int .u8 0).cells rfl xs.length
  rw [em] at hown
  clear em
  have hB : Below w.heap.size w w2 := (Below.refl _ _).grown hg (Nat.le_refl _) (by simp)
  clear hg
  go_loopw [5, 6] (fun rr i wr => ∃ (k r : Nat) (q : List Nat), k ≤ xs.length ∧ i = .int .i64 ((k : Int) - 1) ∧ rr = .int .i64 (r : Int) ∧ r < 10 ∧ Below w.heap.size w wr ∧ wr.ownsRow w.heap.size 5 1 (.slice (some ⟨w.heap.size, 0, none⟩) xs.length xs.length) xs.length (flat 1 bc q) ∧ Hid (M.DivInvB xs q 10 k r)) (fun _ i _ => (intOf i + 1).toNat)
  case atStart => exact ⟨xs.length, 0, _, Nat.le_refl _, rfl, rfl, by omega, hB, hown, Lib.hid (M.DivInvB.start _ (by omega))⟩
  case round =>
    clear hown hB
    obtain ⟨k, r, q, hk, rfl, rfl, hr, hB, hown, HI⟩ := hrel
    cases k with
    | zero =>
      obtain ⟨hf1, hf2⟩ := HI.out.fin HV.out
      have HF := Lib.hid hf1
      have HR := Lib.hid hf2
      have HL := Lib.hid HI.out.len
      clear hf1 hf2 HI
      obtain ⟨A2, c2, hv, hS⟩ := own_slice (by decide) hown
      obtain ⟨rfl, rfl⟩ : some ⟨w.heap.size, 0, none⟩ = A2 ∧ xs.length = c2 := by
        injection hv with h1 h2 h3; exact ⟨h1, h3⟩
      clear hv
      go_wp2_with fail
      have ht := refTrim_any (some ⟨w.heap.size, 0, none⟩) xs.length _ q wr hS (by rw [HL.out]; exact Nat.le_refl _) (by omega)
      rw [HL.out] at ht
      refine ht.mono ?_
      rintro e w3 ⟨rfl, h2, rfl⟩
      rw [HF.out] at h2 ⊢
      have H2 := Lib.hid h2
      clear h2 ht
      go_wp2_with fail
      go_ret2
      exact ⟨_, _, by rw [HR.out]; rfl, by rw [H2.out]; exact hS.take _, hB⟩
    | succ k =>
      obtain ⟨ad, rfl, hab, da⟩ := ha.one_at (k := k) (by omega)
      rw [← hB.cell hab] at da
      simp only [bc] at da
      obtain ⟨y, hy⟩ : ∃ y, xs[k] = y := ⟨_, rfl⟩
      have hy8 : y < 256 := by rw [← hy]; exact HT.out _ (List.getElem_mem _)
      rw [hy] at da
      obtain ⟨hq8, hstep⟩ := HI.out.step (by omega) hy hy8 (by decide)
      have hkq : k < q.length := by have := HI.out.len; omega
      obtain ⟨f1, f2⟩ := own_at hown hkq (j := 0) (by decide)
      obtain ⟨u, hu⟩ : ∃ u, q[k] = u := ⟨_, rfl⟩
      rw [hu] at f1
      simp only [bc, Nat.mul_one, Nat.add_zero] at f1 f2
      have HS := Lib.hid (own_set hown hkq (j := 0) (y := (r * 256 + y) / 10) (u := .int .u8 (((r * 256 + y) / 10 : Nat) : Int)) (by decide) rfl (fun j' h1 h2 => absurd h1 (by omega)))
      have HN := Lib.hid hstep
      obtain ⟨R, hR⟩ : ∃ R, r * 256 + y = R := ⟨_, rfl⟩
      have hRb : R < 2560 := by omega
      have eR : (256 : Int) * (r : Int) + (y : Int) = (R : Int) := by omega
      rw [hR] at HS HN hq8
      clear hy hu hab hstep hR
      go_wp2_with fail
      go_roundw
      case rel =>
        refine ⟨k, R % 10, _, by omega, by go_num, by rw [Int.natCast_emod]; rfl, HN.out.rem, hB.setCell (p := ⟨w.heap.size, _, none⟩) (Nat.le_refl _) _, ?_, HN⟩
        have := HS.out
        simp only [Nat.mul_one, Nat.add_zero, Int.natCast_ediv] at this
        exact this
      case measure => simp [intOf]

/-- What Order against ten answers. -/
def M.ord (n : Nat) : Int := if n < 10 then -1 else if n = 10 then 0 else 1

set_option maxHeartbeats 2000000 in
theorem order_ten (A : Option Addr) (c d : Nat) (ad : Addr) (n : Nat) (w : World) (ha : Sl 1 bc w w.heap.size A (M.lb n)) (hl : (M.lb n).length ≤ 1000) (ht : w.cell? ad = some (.int .u8 10)) :
    Calls Try.prog 29 #[.slice A (M.lb n).length c, .slice (some ad) 1 d] w fun e w' => e = .returned (.int .i64 (M.ord n)) ∧ ∃ m, w' = w.drewN m := by
  obtain ⟨L, hL⟩ : ∃ L, (M.lb n).length = L := ⟨_, rfl⟩
  rw [hL] at hl ⊢
  by_cases h0 : L = 0
  · subst h0
    have hn : n < 256 ^ 0 := M.lb_len.1 (by omega)
    have HE : Hid (M.ord n = -1) := Lib.hid (by unfold M.ord; rw [if_pos (by simp at hn; omega)])
    clear hn hL ha ht
    go_enter Try.func29, Try.ntmps29
    go_wp2_with fail
    go_ret
    exact ⟨ret_int HE.out.symm, 0, rfl⟩
  · by_cases h1 : L = 1
    · subst h1
      have hn : n < 256 ^ 1 := M.lb_len.1 (by omega)
      obtain ⟨a1, rfl, _, d1⟩ := ha.one_at (k := 0) (by omega)
      rw [M.lb_at] at d1
      simp only [bc, Nat.pow_zero, Nat.div_one, Nat.mod_eq_of_lt (show n < 256 by simpa using hn), Addr.add, if_true] at d1
      have hn' : n < 256 := by simpa using hn
      clear hn hL ha h0
      go_enter Try.func29, Try.ntmps29
      go_wp2_with fail
      go_loopw [5] (fun i wr => (i = .int .i64 0 ∧ wr = w) ∨ (i = .int .i64 (-1) ∧ n = 10 ∧ ∃ m, wr = w.drewN m)) (fun i _ => (intOf i + 1).toNat)
      case atStart => exact .inl ⟨rfl, rfl⟩
      case round =>
        rcases hrel with ⟨rfl, rfl⟩ | ⟨rfl, hn10, m, rfl⟩
        · by_cases h10 : n = 10
          · subst h10
            go_wp2_with fail
            go_quiet (fail)
            go_wp2_with fail
            go_roundw
            case rel => exact .inr ⟨rfl, trivial, _, rfl⟩
            case measure => simp [intOf]
          · have hb : ((n : Int) != 10) = true := by simp; omega
            by_cases hlt : n < 10
            · have HE : Hid (M.ord n = -1) := Lib.hid (by unfold M.ord; rw [if_pos hlt])
              have hlt' : decide ((n : Int) < 10) = true := by simp; omega
              go_wp2_with fail
              go_quiet (fail)
              go_wp2_with fail
              go_quiet (fail)
              go_wp2_with fail
              go_ret
              exact ⟨ret_int HE.out.symm, _, World.drewN_drewN _ _ _⟩
            · have HE : Hid (M.ord n = 1) := Lib.hid (by unfold M.ord; rw [if_neg hlt, if_neg h10])
              have hlt' : decide ((n : Int) < 10) = false := by simp; omega
              go_wp2_with fail
              go_quiet (fail)
              go_wp2_with fail
              go_quiet (fail)
              go_wp2_with fail
              go_ret
              exact ⟨ret_int HE.out.symm, _, World.drewN_drewN _ _ _⟩
        · have HE : Hid (M.ord n = 0) := Lib.hid (by rw [hn10]; rfl)
          clear hn10
          go_wp2_with fail
          go_ret
          exact ⟨ret_int HE.out.symm, _, rfl⟩
    · have hn : ¬ n < 256 ^ 1 := fun h => by
        have := M.lb_len.2 h
        omega
      have HE : Hid (M.ord n = 1) := Lib.hid (by unfold M.ord; rw [if_neg (by simp at hn; omega), if_neg (by simp at hn; omega)])
      have hb : ((L : Int) != 1) = true := by simp; omega
      have hlt : 1 < L := by omega
      clear hn hL ha ht h0 h1
      go_enter Try.func29, Try.ntmps29
      go_wp2_with fail
      go_ret
      exact ⟨ret_int HE.out.symm, 0, rfl⟩
end Go.Proofs.Ytpbcbomlhcbfjaa
