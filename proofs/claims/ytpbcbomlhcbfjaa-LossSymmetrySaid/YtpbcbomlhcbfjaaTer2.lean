/- Layer 10: Valid, inside, place, divide, distance. -/
import Derived.Test.YtpbcbomlhcbfjaaTer
namespace Go.Proofs.Ytpbcbomlhcbfjaa
open Go Go.RowKit

set_option maxHeartbeats 2000000 in
theorem tvalid_any (W H : Int) (GA PA : Option Addr) (gc pc : Nat) (G P : List Int) (w : World) (hg : Sl 1 icell w w.heap.size GA G) (hp : Sl 1 icell w w.heap.size PA P) (hgl : G.length ≤ 9223372036854775806) (hpl : P.length ≤ 9223372036854775806) :
    Calls Try.prog 46 #[tv W H GA PA G.length gc P.length pc] w fun e w' => e = .returned (.bool (M.tvalid W H G P)) ∧ Below w.heap.size w w' := by
  have hB0 := (Below.refl w.heap.size w).alloc (Nat.le_refl _) (.cells #[.int .i64 W, .int .i64 H, .slice GA G.length gc, .slice PA P.length pc] 35)
  have hg0 := hg.alloc (Nat.le_refl _) (.cells #[.int .i64 W, .int .i64 H, .slice GA G.length gc, .slice PA P.length pc] 35)
  have hp0 := hp.alloc (Nat.le_refl _) (.cells #[.int .i64 W, .int .i64 H, .slice GA G.length gc, .slice PA P.length pc] 35)
  obtain ⟨r, hr⟩ : ∃ r, M.tvalid W H G P = r := ⟨_, rfl⟩
  have HR := Lib.hid hr
  rw [hr]
  clear hr
  go_enter Try.func46, Try.ntmps46
  go_wp2_with fail
  refine (within_any W 1 64 _).mono ?_
  rintro e w1 ⟨rfl, rfl⟩
  cases h1 : M.isIn W 1 64 with
  | false =>
    have HR2 : Hid (false = r) := Lib.hid (by rw [← HR.out]; unfold M.tvalid; rw [h1]; rfl)
    go_wp2_with fail
    go_ret
    exact ⟨ret_bool HR2.out, hB0⟩
  | true =>
    go_wp2_with fail
    refine (within_any H 1 64 _).mono ?_
    rintro e w1 ⟨rfl, rfl⟩
    cases h2 : M.isIn H 1 64 with
    | false =>
      have HR2 : Hid (false = r) := Lib.hid (by rw [← HR.out]; unfold M.tvalid; rw [h1, h2]; rfl)
      go_wp2_with fail
      go_ret
      exact ⟨ret_bool HR2.out, hB0⟩
    | true =>
      obtain ⟨a1, a2⟩ := M.isIn_iff.1 h1
      obtain ⟨a3, a4⟩ := M.isIn_iff.1 h2
      have hm1 : 1 ≤ W * H := by
        have := Int.mul_le_mul a1 a3 (by omega) (by omega)
        omega
      have hm2 : W * H ≤ 4096 := by
        have := Int.mul_le_mul a2 a4 (by omega) (by omega)
        omega
      obtain ⟨n, hn⟩ : ∃ n, W * H = n := ⟨_, rfl⟩
      rw [hn] at hm1 hm2
      by_cases h3 : (G.length : Int) = n
      · by_cases h4 : (P.length : Int) = n
        · have HR3 : Hid (r = (M.allIn G 0 9000 && M.allIn P 0 1000000)) := Lib.hid (by rw [← HR.out]; unfold M.tvalid; rw [h1, h2, hn]; simp [h3, h4])
          go_wp2_with fail
          refine (allWithin_any GA gc G 0 9000 _ _ hg0 hgl).mono ?_
          rintro e w1 ⟨rfl, rfl⟩
          cases h5 : M.allIn G 0 9000 with
          | false =>
            have HR2 : Hid (false = r) := Lib.hid (by rw [HR3.out, h5, Bool.false_and])
            go_wp2_with fail
            go_ret
            exact ⟨ret_bool HR2.out, hB0⟩
          | true =>
            go_wp2_with fail
            refine (allWithin_any PA pc P 0 1000000 _ _ hp0 hpl).mono ?_
            rintro e w1 ⟨rfl, rfl⟩
            have HR2 : Hid (M.allIn P 0 1000000 = r) := Lib.hid (by rw [HR3.out, h5, Bool.true_and])
            generalize M.allIn P 0 1000000 = q at *
            go_wp2_with fail
            go_ret
            exact ⟨ret_bool HR2.out, hB0⟩
        · have HR2 : Hid (false = r) := Lib.hid (by rw [← HR.out]; unfold M.tvalid; rw [hn]; simp [h4])
          go_wp2_with fail
          go_ret
          exact ⟨ret_bool HR2.out, hB0⟩
      · have HR2 : Hid (false = r) := Lib.hid (by rw [← HR.out]; unfold M.tvalid; rw [hn]; simp [h3])
        go_wp2_with fail
        go_ret
        exact ⟨ret_bool HR2.out, hB0⟩
end Go.Proofs.Ytpbcbomlhcbfjaa
