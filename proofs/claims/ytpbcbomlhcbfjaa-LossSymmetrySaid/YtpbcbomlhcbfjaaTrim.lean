/- The contract of number.trim: zeros at the end are dropped. -/
import Derived.Test.YtpbcbomlhcbfjaaProg
import Derived.Test.YtpbcbomlhcbfjaaMem
import Derived.Test.YtpbcbomlhcbfjaaNat
namespace Go.Proofs.Ytpbcbomlhcbfjaa
open Go Go.RowKit

/-- A word of base 2^32; a byte. -/
def wc (x : Nat) (_ : Nat) : Value := .int .u32 (x : Int)
def bc (x : Nat) (_ : Nat) : Value := .int .u8 (x : Int)
theorem Sl.one_at {α : Type} {cell : α → Nat → Value} {w : World} {B : Nat} {A : Option Addr} {xs : List α} {k : Nat} (h : Sl 1 cell w B A xs) (hk : k < xs.length) : ∃ ad, A = some ad ∧ (ad.add k).block < B ∧ w.cell? (ad.add k) = some (cell xs[k] 0) := by
  obtain ⟨ad, e, hb, hc⟩ := h k hk
  exact ⟨ad, e, by rw [add_block]; exact hb, by simpa using hc 0 (by omega)⟩
theorem Sl.take {α : Type} {size : Nat} {cell : α → Nat → Value} {w : World} {B : Nat} {A : Option Addr} {xs : List α} (h : Sl size cell w B A xs) (k : Nat) : Sl size cell w B A (xs.take k) := by
  intro i hi
  have hi' : i < xs.length := by simp at hi; omega
  obtain ⟨ad, e, hb, hc⟩ := h i hi'
  exact ⟨ad, e, hb, fun j hj => by rw [hc j hj, List.getElem_take]⟩

def TrimPost (w : World) (A : Option Addr) (c : Nat) (l : List Nat) (e : Ending) (w' : World) : Prop := e = .returned (.slice A (M.trm l).length c) ∧ M.trm l = l.take (M.trm l).length ∧ w = w'

theorem M.trm_at {l : List Nat} {k : Nat} (hk : k < l.length) (h : M.trm (l.take (k + 1)) = M.trm l) (h0 : l[k] = 0) : M.trm (l.take k) = M.trm l := by
  rw [← h, List.take_succ_eq_append_getElem hk, h0, M.trm_snoc_zero]
theorem M.trm_stop {l : List Nat} {k : Nat} (hk : k < l.length) (h : M.trm (l.take (k + 1)) = M.trm l) (h0 : l[k] ≠ 0) : M.trm l = l.take (k + 1) := by
  rw [← h, List.take_succ_eq_append_getElem hk, M.trm_snoc_pos _ h0]

set_option maxHeartbeats 1000000 in
theorem trim_any (A : Option Addr) (c B : Nat) (l : List Nat) (w : World) (ha : Sl 1 wc w B A l) (hc : l.length ≤ c) (hm : c ≤ 9223372036854775807) :
    Calls Try.prog 43 #[.slice A l.length c] w (TrimPost w A c l) := by
  go_enter Try.func43, Try.ntmps43
  go_wp2_with fail
  go_loop [0] (fun x => ∃ k : Nat, k ≤ l.length ∧ x = .slice A k c ∧ Hid (M.trm (l.take k) = M.trm l)) (fun x => match x with | .slice _ k _ => k | _ => 0)
  case atStart => exact ⟨l.length, Nat.le_refl _, rfl, Lib.hid (by rw [List.take_length])⟩
  case round =>
    obtain ⟨k, hk, rfl, HT⟩ := hrel
    cases k with
    | zero =>
      have HE : Hid (M.trm l = []) := Lib.hid (by rw [← HT.out]; rfl)
      go_wp2_with fail
      go_ret
      exact ⟨by rw [HE.out]; rfl, by rw [HE.out]; rfl, rfl⟩
    | succ k =>
      obtain ⟨ad, rfl, _, d⟩ := ha.one_at (k := k) (by omega)
      simp only [wc] at d
      by_cases h0 : l[k] = 0
      · have HN := Lib.hid (M.trm_at (by omega) HT.out h0)
        rw [h0] at d
        clear h0
        go_wp2_with fail
        go_round
        case rel => exact ⟨k, by omega, rfl, HN⟩
        case measure => simp
      · have HE := Lib.hid (M.trm_stop (by omega) HT.out h0)
        have hb : (((l[k] : Nat) : Int) == 0) = false := by simp; exact h0
        clear h0
        go_wp2_with fail
        go_ret
        have hlen : (M.trm l).length = k + 1 := by rw [HE.out]; simp; omega
        exact ⟨by rw [hlen]; rfl, by rw [hlen]; exact HE.out, rfl⟩
end Go.Proofs.Ytpbcbomlhcbfjaa
