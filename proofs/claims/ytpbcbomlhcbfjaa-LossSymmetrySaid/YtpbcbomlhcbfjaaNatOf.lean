/- The contract of number.natOf. -/
import Derived.Test.YtpbcbomlhcbfjaaTrim
import Derived.RegionTactic
import Derived.BigRegion
import Derived.StillTailTactics
namespace Go.Proofs.Ytpbcbomlhcbfjaa
open Go Go.RowKit

/-- A call that returns the words of a number. -/
def RetN (w : World) (n : Nat) (e : Ending) (w' : World) : Prop := ∃ A c, e = .returned (.slice A (M.wds n).length c) ∧ (M.wds n).length ≤ c ∧ c ≤ 1000 ∧ Sl 1 wc w' w'.heap.size A (M.wds n) ∧ Below w.heap.size w w'

theorem u32Info : (Try.prog.info? 73).map (fun i => (i.zero, i.size, i.bytes)) = some (some (.int .u32 0), 1, 4) := by kernel_rfl

theorem or_shl {x y m : Nat} (hm : m < 4) (hx : x < 256 ^ m) (hy : y < 256) : bits BinOp.or IntKind.u32 (x : Int) ((y : Int) * 2 ^ (8 * m) % 4294967296) = ((x + y * 256 ^ m : Nat) : Int) := by
  have e : (256 : Nat) ^ m = 2 ^ (8 * m) := by rw [Nat.pow_mul]
  rw [e] at hx
  have hp : y * 2 ^ (8 * m) < 4294967296 := by
    have h1 : (2 : Nat) ^ (8 * m) ≤ 2 ^ 24 := Nat.pow_le_pow_right (by decide) (by omega)
    have h2 : y * 2 ^ (8 * m) ≤ 255 * 2 ^ 24 := Nat.mul_le_mul (by omega) h1
    omega
  have hx32 : x < 4294967296 := by
    have h1 : (2 : Nat) ^ (8 * m) ≤ 2 ^ 24 := Nat.pow_le_pow_right (by decide) (by omega)
    omega
  have e2 : (y : Int) * 2 ^ (8 * m) % 4294967296 = ((y * 2 ^ (8 * m) : Nat) : Int) := by
    rw [Int.natCast_mul, Int.natCast_pow]
    apply Int.emod_eq_of_lt
    · have : (0 : Int) ≤ ((y * 2 ^ (8 * m) : Nat) : Int) := Int.natCast_nonneg _
      simpa using this
    · have : ((y * 2 ^ (8 * m) : Nat) : Int) < ((4294967296 : Nat) : Int) := by exact_mod_cast hp
      simpa using this
  rw [e2, u32_or_nat _ _ hx32 hp, Nat.or_comm, nat_join (8 * m) _ _ (by simp) hx, Nat.add_comm, e]

set_option maxHeartbeats 1000000 in
theorem natOf_any (A : Option Addr) (c : Nat) (ds : List Nat) (w : World) (ha : Sl 1 bc w w.heap.size A ds) (hd : ∀ d ∈ ds, d < 256) (hl : ds.length ≤ 64) :
    Calls Try.prog 37 #[.slice A ds.length c] w (RetN w (M.val 256 ds.reverse)) := by
  obtain ⟨i0, hi, hz0, hz1, hz2⟩ := info_parts u32Info
  have Hi := Lib.hid hi; have Hz0 := Lib.hid hz0; have Hz1 := Lib.hid hz1; have Hz2 := Lib.hid hz2
  clear hi hz0 hz1 hz2
  go_enter Try.func37, Try.ntmps37
  go_wp2_with (at_make; refine wpList_make_full _ rfl _ _ 70 rfl w.heap.size 73 i0 _ 1 Try.underlying70 Hi.out Hz0.out Hz1.out .i64 .i64 _ _ ((ds.length + 3) / 4) rfl rfl (by omega) (by omega) (by rw [Hz2.out]; omega) (by unfold maxLen; omega) (Nat.le_refl _) ?_; intro w2 hown hg)
  have em := made_flat (cell := wc) (size := 1) (x0 := 0) (by decide) (Value.int .u32 0).cells rfl ((ds.length + 3) / 4)
  rw [em] at hown
  clear em
  have hB : Below w.heap.size w w2 := (Below.refl _ _).grown hg (Nat.le_refl _) (by simp)
  clear hg
  go_loopw [13] (fun i wr => ∃ (k : Nat) (X : List Nat), k ≤ ds.length ∧ i = .int .i64 k ∧ Below w.heap.size w wr ∧ wr.ownsRow w.heap.size 73 1 (.slice (some ⟨w.heap.size, 0, none⟩) ((ds.length + 3) / 4) ((ds.length + 3) / 4)) ((ds.length + 3) / 4) (flat 1 wc X) ∧ Hid (M.NatInv ds.reverse X ((ds.length + 3) / 4) k)) (fun i _ => ds.length - (intOf i).toNat)
  case atStart => exact ⟨0, List.replicate ((ds.length + 3) / 4) 0, Nat.zero_le _, rfl, hB, hown, Lib.hid (M.NatInv.start _ _)⟩
  case round =>
    obtain ⟨k, X, hk, rfl, hB, hown, HI⟩ := hrel
    by_cases hlt : k < ds.length
    · obtain ⟨ad, rfl, _, d⟩ := ha.one_at (k := ds.length - 1 - k) (by omega)
      rw [← hB.cell (by assumption)] at d
      have hXl := HI.out.len
      have hq : k / 4 < X.length := by omega
      obtain ⟨f1, f2⟩ := own_at hown hq (j := 0) (by decide)
      simp only [wc, bc, Nat.mul_one, Nat.add_zero] at f1 f2 d
      obtain ⟨x, hx⟩ : ∃ x, X[k / 4] = x := ⟨_, rfl⟩
      obtain ⟨y, hy⟩ : ∃ y, ds[ds.length - 1 - k] = y := ⟨_, rfl⟩
      rw [hx] at f1
      rw [hy] at d
      have hy8 : y < 256 := by rw [← hy]; exact hd _ (List.getElem_mem _)
      have hx32 : x < 4294967296 := by rw [← hx]; exact HI.out.lt _ (List.getElem_mem _)
      have hxm : x < 256 ^ (k % 4) := by rw [← hx]; exact HI.out.at_ hq
      have HO := Lib.hid (or_shl (Nat.mod_lt k (by decide : 0 < 4)) hxm hy8)
      have HS := Lib.hid (HI.out.step (y := y) (x := x) (by simpa using hlt) (by rw [List.getElem_reverse]; exact hy) hy8 hq hx)
      have HW := Lib.hid (own_set hown hq (j := 0) (y := x + y * 256 ^ (k % 4)) (u := .int .u32 ((x + y * 256 ^ (k % 4) : Nat) : Int)) (by decide) rfl (fun j' h1 h2 => absurd h1 (by omega)))
      clear hXl hxm hx hy
      go_wp2_with fail
      go_region
      go_wp2_with fail
      go_roundw
      case rel =>
        rw [HO.out]
        refine ⟨k + 1, _, hlt, by go_num, (hB.setCell (p := ⟨w.heap.size, _, none⟩) (Nat.le_refl _) _).drew, ?_, HS⟩
        have := HW.out
        rw [Nat.mul_one] at this
        exact this
      case measure => simp [intOf]; omega
    · have hkl : k = ds.length := by omega
      have HF := Lib.hid (show M.trm X = M.wds (M.val 256 ds.reverse) by
        have h := HI.out
        have e : k = ds.reverse.length := by simp; exact hkl
        rw [e] at h
        exact h.fin)
      have hXl := HI.out.len
      have hlt2 := HI.out.lt
      have HL := Lib.hid hXl
      clear hkl hXl
      obtain ⟨A2, c2, hv, hS⟩ := own_slice (by decide) hown
      obtain ⟨rfl, hxx, rfl⟩ : some ⟨w.heap.size, 0, none⟩ = A2 ∧ (ds.length + 3) / 4 = X.length ∧ (ds.length + 3) / 4 = c2 := by
        injection hv with h1 h2 h3; exact ⟨h1, h2, h3⟩
      clear hxx hv
      go_wp2_with fail
      have ht := trim_any (some ⟨w.heap.size, 0, none⟩) ((ds.length + 3) / 4) _ X wr hS (by rw [HL.out]; exact Nat.le_refl _) (by omega)
      rw [HL.out] at ht
      refine ht.mono ?_
      rintro e w3 ⟨rfl, h2, rfl⟩
      rw [HF.out] at h2 ⊢
      have hlen : (M.wds (M.val 256 ds.reverse)).length ≤ X.length := by
        rw [h2]; simp; omega
      have H2 := Lib.hid h2
      clear h2 ht
      go_wp2_with fail
      go_ret
      exact ⟨_, _, rfl, by have := HL.out; omega, by omega, by rw [H2.out]; exact hS.take _, hB⟩
end Go.Proofs.Ytpbcbomlhcbfjaa
