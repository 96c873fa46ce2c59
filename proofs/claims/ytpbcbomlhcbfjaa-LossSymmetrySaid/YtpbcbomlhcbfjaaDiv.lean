/- The contract of number.divSmall. -/
import Derived.Test.YtpbcbomlhcbfjaaNatOf
namespace Go.Proofs.Ytpbcbomlhcbfjaa
open Go Go.RowKit

def RetDiv (w : World) (n d : Nat) (e : Ending) (w' : World) : Prop := ∃ A c, e = .returned (.tuple #[.slice A (M.wds (n / d)).length c, .int .u32 ((n % d : Nat) : Int)]) ∧ (∀ ad, A = some ad → w.heap.size ≤ ad.block) ∧ Sl 1 wc w' w'.heap.size A (M.wds (n / d)) ∧ Below w.heap.size w w'

theorem or_shl64 {r y : Nat} (hr : r < 4294967296) (hy : y < 4294967296) : bits BinOp.or IntKind.u64 ((r * 4294967296 : Nat) : Int) (y : Int) = ((r * 4294967296 + y : Nat) : Int) := by
  rw [u64_or_nat _ _ (by omega) (by omega), nat_join 32 _ _ (by omega) (by omega)]

set_option maxHeartbeats 2000000 in
theorem divSmall_any (A : Option Addr) (c : Nat) (n d : Nat) (w : World) (ha : Sl 1 wc w w.heap.size A (M.wds n)) (hl : (M.wds n).length ≤ 100) (hd0 : 1 ≤ d) (hd : d < 4294967296) :
    Calls Try.prog 57 #[.slice A (M.wds n).length c, .int .u32 (d : Int)] w (RetDiv w n d) := by
  have hv := M.wds_val n
  have ht := M.wds_lt n
  generalize M.wds n = xs at *
  have HV := Lib.hid hv
  have HT := Lib.hid ht
  clear hv ht
  obtain ⟨i0, hi, hz0, hz1, hz2⟩ := info_parts u32Info
  have Hi := Lib.hid hi; have Hz0 := Lib.hid hz0; have Hz1 := Lib.hid hz1; have Hz2 := Lib.hid hz2
  clear hi hz0 hz1 hz2
  go_enter Try.func57, Try.ntmps57
  go_wp2_with (at_make; refine wpList_make_full _ rfl _ _ 70 rfl w.heap.size 73 i0 _ 1 Try.underlying70 Hi.out Hz0.out Hz1.out .i64 .i64 _ _ xs.length rfl rfl rfl rfl (by rw [Hz2.out]; omega) (by unfold maxLen; omega) (Nat.le_refl _) ?_; intro w2 hown hg)
  have em := made_flat (cell := wc) (size := 1) (x0 := 0) (by decide) (Value.int .u32 0).cells rfl xs.length
  rw [em] at hown
  clear em
  have hB : Below w.heap.size w w2 := (Below.refl _ _).grown hg (Nat.le_refl _) (by simp)
  clear hg
  go_loopw [7, 8] (fun rr i wr => ∃ (k r : Nat) (q : List Nat), k ≤ xs.length ∧ i = .int .i64 ((k : Int) - 1) ∧ rr = .int .u64 (r : Int) ∧ r < d ∧ Below w.heap.size w wr ∧ wr.ownsRow w.heap.size 73 1 (.slice (some ⟨w.heap.size, 0, none⟩) xs.length xs.length) xs.length (flat 1 wc q) ∧ Hid (M.DivInv xs q d k r)) (fun _ i _ => (intOf i + 1).toNat)
  case atStart => exact ⟨xs.length, 0, _, Nat.le_refl _, rfl, rfl, by omega, hB, hown, Lib.hid (M.DivInv.start _ (by omega))⟩
  case round =>
    clear hown hB
    obtain ⟨k, r, q, hk, rfl, rfl, hr, hB, hown, HI⟩ := hrel
    cases k with
    | zero =>
      obtain ⟨hf1, hf2⟩ := HI.out.fin HV.out
      have HF := Lib.hid hf1
      have HR := Lib.hid hf2
      have HL := Lib.hid HI.out.len
      clear hf1 hf2 HI
      obtain ⟨A2, c2, hv, hS⟩ := own_slice (by decide) hown
      obtain ⟨rfl, rfl⟩ : some ⟨w.heap.size, 0, none⟩ = A2 ∧ xs.length = c2 := by
        injection hv with h1 h2 h3; exact ⟨h1, h3⟩
      clear hv
      go_wp2_with fail
      have ht := trim_any (some ⟨w.heap.size, 0, none⟩) xs.length _ q wr hS (by rw [HL.out]; exact Nat.le_refl _) (by omega)
      rw [HL.out] at ht
      refine ht.mono ?_
      rintro e w3 ⟨rfl, h2, rfl⟩
      rw [HF.out] at h2 ⊢
      have H2 := Lib.hid h2
      clear h2 ht
      go_wp2_with fail
      go_ret2
      exact ⟨_, _, by rw [HR.out]; rfl, (fun ad h => by cases h; exact Nat.le_refl _), by rw [H2.out]; exact hS.take _, hB⟩
    | succ k =>
      obtain ⟨ad, rfl, hab, da⟩ := ha.one_at (k := k) (by omega)
      rw [← hB.cell hab] at da
      simp only [wc] at da
      obtain ⟨y, hy⟩ : ∃ y, xs[k] = y := ⟨_, rfl⟩
      have hy32 : y < 4294967296 := by rw [← hy]; exact HT.out _ (List.getElem_mem _)
      rw [hy] at da
      obtain ⟨hq32, hstep⟩ := HI.out.step (by omega) hy hy32 hd
      have hkq : k < q.length := by have := HI.out.len; omega
      obtain ⟨f1, f2⟩ := own_at hown hkq (j := 0) (by decide)
      obtain ⟨u, hu⟩ : ∃ u, q[k] = u := ⟨_, rfl⟩
      rw [hu] at f1
      simp only [wc, Nat.mul_one, Nat.add_zero] at f1 f2
      have HS := Lib.hid (own_set hown hkq (j := 0) (y := (r * 4294967296 + y) / d) (u := .int .u32 (((r * 4294967296 + y) / d : Nat) : Int)) (by decide) rfl (fun j' h1 h2 => absurd h1 (by omega)))
      have HN := Lib.hid hstep
      have hor := or_shl64 (r := r) (y := y) (by omega) hy32
      rw [Int.natCast_mul] at hor
      obtain ⟨R, hR⟩ : ∃ R, r * 4294967296 + y = R := ⟨_, rfl⟩
      have hRb : R < 18446744073709551616 := by omega
      rw [hR] at hor hq32 HS HN
      have hor2 : bits BinOp.or IntKind.u64 ((r : Int) * 4294967296) (y : Int) = (R : Int) := hor
      have hqn : (0 : Int) ≤ (R : Int) / (d : Int) := Int.ediv_nonneg (by omega) (by omega)
      have hqb : (R : Int) / (d : Int) < 4294967296 := by
        have h := Int.ofNat_lt.2 hq32
        rw [Int.natCast_ediv] at h
        exact h
      clear hy hu hab hstep hor hR
      go_wp2_with fail
      have er : (R : Int) % (d : Int) = ((R % d : Nat) : Int) := by rw [Int.natCast_emod]
      go_roundw
      case rel =>
        refine ⟨k, R % d, _, by omega, rfl, by rw [← er], HN.out.rem, hB.setCell (p := ⟨w.heap.size, _, none⟩) (Nat.le_refl _) _, ?_, HN⟩
        have := HS.out
        simp only [Nat.mul_one, Nat.add_zero, Int.natCast_ediv] at this
        exact this
      case measure => simp [intOf]
end Go.Proofs.Ytpbcbomlhcbfjaa
