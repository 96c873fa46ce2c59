/- The contract of slices.Reverse at bytes: it writes its own row alone. -/
import Derived.Test.YtpbcbomlhcbfjaaNatOf
namespace Go.Proofs.Ytpbcbomlhcbfjaa
open Go Go.RowKit

def RevPost (w : World) (base : Nat) (e : Ending) (w' : World) : Prop := e = .returned (.tuple #[]) ∧ Below base w w'

set_option maxHeartbeats 4000000 in
theorem reverse_ok (g m cap base : Nat) (l : List Nat) (w : World) (hown : w.ownsRow base 5 1 (.slice (some ⟨g, 0, none⟩) m cap) m (flat 1 bc l)) (hm : m ≤ 10000) :
    Calls Try.prog 58 #[.slice (some ⟨g, 0, none⟩) m cap] w (RevPost w base) := by
  have hbg := (own_lt hown).1
  go_enter Try.func58, Try.ntmps58
  go_wp2_with fail
  go_loopw [2, 3] (fun i j wr => ∃ (a b : Int) (l' : List Nat), 0 ≤ a ∧ a ≤ m ∧ -1 ≤ b ∧ b < m ∧ i = .int .i64 a ∧ j = .int .i64 b ∧ Below base w wr ∧ wr.ownsRow base 5 1 (.slice (some ⟨g, 0, none⟩) m cap) m (flat 1 bc l') ∧ Hid (l'.length = m)) (fun i j _ => (intOf j - intOf i).toNat)
  case atStart => 
    refine ⟨0, (m : Int) - 1, l, by omega, by omega, by omega, by omega, rfl, rfl, Below.refl _ _, hown, Lib.hid ?_⟩
    have := hown.1; rw [flat_length] at this; omega
  case round =>
    clear hown
    obtain ⟨a, b, l', ha, ham, hb, hbm, rfl, rfl, hB, hown, HL⟩ := hrel
    by_cases hlt : a < b
    · obtain ⟨i, rfl⟩ := Int.eq_ofNat_of_zero_le ha
      obtain ⟨j, rfl⟩ := Int.eq_ofNat_of_zero_le (show 0 ≤ b by omega)
      have hij : i < j := by omega
      have hjm : j < m := by omega
      have hi' : i < l'.length := by have := HL.out; omega
      have hj' : j < l'.length := by have := HL.out; omega
      obtain ⟨f1, f2⟩ := own_at hown hi' (j := 0) (by decide)
      obtain ⟨f3, f4⟩ := own_at hown hj' (j := 0) (by decide)
      have HS := Lib.hid (own_set (own_set hown hi' (j := 0) (y := l'[j]) (u := bc l'[j] 0) (by decide) rfl (fun j' h1 h2 => absurd h1 (by omega))) (k := j) (by rw [List.length_set]; exact hj') (j := 0) (y := l'[i]) (u := bc l'[i] 0) (by decide) rfl (fun j' h1 h2 => absurd h1 (by omega)))
      simp only [bc, Nat.mul_one, Nat.add_zero] at f1 f2 f3 f4
      have n1 : ¬ i = j := by omega
      have n2 : ¬ j = i := by omega
      obtain ⟨x, hx⟩ : ∃ x, l'[i] = x := ⟨_, rfl⟩
      obtain ⟨y, hy⟩ : ∃ y, l'[j] = y := ⟨_, rfl⟩
      rw [hx] at f1
      rw [hy] at f3
      have HX := Lib.hid hx
      have HY := Lib.hid hy
      clear hx hy
      go_wp2_with fail
      go_region
      go_wp2_with fail
      go_roundw
      case rel =>
        refine ⟨(i : Int) + 1, (j : Int) - 1, (l'.set i y).set j x, by omega, by omega, by omega, by omega, rfl, rfl, ((hB.setCell (p := ⟨g, i, none⟩) hbg _).setCell (p := ⟨g, j, none⟩) hbg _).drew, ?_, Lib.hid (by rw [List.length_set, List.length_set]; exact HL.out)⟩
        have := HS.out
        simp only [bc, HX.out, HY.out, Nat.mul_one, Nat.add_zero] at this
        exact this
      case measure => simp [intOf]; omega
    · go_wp2_with fail
      go_end0
      exact ⟨rfl, hB⟩
end Go.Proofs.Ytpbcbomlhcbfjaa
