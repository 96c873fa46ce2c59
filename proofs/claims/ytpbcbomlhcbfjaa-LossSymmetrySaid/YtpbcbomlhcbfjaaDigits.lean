/- The contract of nat.digits: the base 256 digits of a number, the highest first. -/
import Derived.Test.YtpbcbomlhcbfjaaSize
namespace Go.Proofs.Ytpbcbomlhcbfjaa
open Go Go.RowKit

theorem u8Info : (Try.prog.info? 5).map (fun i => (i.zero, i.size, i.bytes)) = some (some (.int .u8 0), 1, 1) := by kernel_rfl
theorem M.byt_bl (n : Nat) : (M.byt n).length = (M.bl n + 7) / 8 := by
  have key : ∀ k, (M.byt n).length ≤ k ↔ (M.bl n + 7) / 8 ≤ k := by
    intro k
    rw [M.byt_len, show (256 : Nat) ^ k = 2 ^ (8 * k) by rw [Nat.pow_mul], ← M.bl_le]
    omega
  have h1 := (key _).1 (Nat.le_refl _)
  have h2 := (key _).2 (Nat.le_refl _)
  omega
theorem M.bl_wds {n k : Nat} (h : (M.wds n).length ≤ k) : M.bl n ≤ 32 * k := by
  rw [M.bl_le, Nat.pow_mul]
  exact M.wds_len.1 h
/-- A call that returns the digits of a number. -/
def RetD (w : World) (n : Nat) (e : Ending) (w' : World) : Prop := ∃ A c, e = .returned (.slice A (M.byt n).length c) ∧ (M.byt n).length ≤ c ∧ c ≤ 1000 ∧ (∀ ad, A = some ad → w.heap.size ≤ ad.block) ∧ Sl 1 bc w' w'.heap.size A (M.byt n) ∧ Below w.heap.size w w'

theorem Sl.setFar {α : Type} {size : Nat} {cell : α → Nat → Value} {w : World} {B : Nat} {A : Option Addr} {xs : List α} (h : Sl size cell w B A xs) {p : Addr} (hne : ∀ ad, A = some ad → ad.block ≠ p.block) (u : Value) : Sl size cell (w.setCell p u) B A xs := by
  intro k hk
  obtain ⟨ad, e, hb, hc⟩ := h k hk
  refine ⟨ad, e, hb, fun j hj => ?_⟩
  rw [World.cell?_setCell_other w p _ u (fun he => hne ad e (by have := congrArg Addr.block he; rw [add_block] at this; first | exact this | exact this.symm))]
  exact hc j hj
theorem byte_cast (x r : Nat) : (x : Int) / 2 ^ (8 * r) % 256 = ((x / 256 ^ r % 256 : Nat) : Int) := by
  rw [Int.natCast_emod, Int.natCast_ediv, Int.natCast_pow, Int.pow_mul]
  rfl
theorem drop_set {α : Type} {D : List α} {z : α} {m i : Nat} (hm : D.length = m) (hi : i < m) : (List.replicate (m - i) z ++ D.drop (m - i)).set (m - 1 - i) (D[m - 1 - i]'(by omega)) = List.replicate (m - (i + 1)) z ++ D.drop (m - (i + 1)) := by
  have e1 : List.replicate (m - i) z = List.replicate (m - (i + 1)) z ++ [z] := by
    rw [show m - i = m - (i + 1) + 1 by omega, List.replicate_succ']
  have e2 : D.drop (m - (i + 1)) = D[m - 1 - i]'(by omega) :: D.drop (m - i) := by
    rw [List.drop_eq_getElem_cons (by omega), show m - (i + 1) + 1 = m - i by omega]
    have : m - (i + 1) = m - 1 - i := by omega
    simp only [this]
  rw [e1, e2, List.append_assoc, List.set_append_right _ _ (by simp; omega)]
  congr 1
  simp only [List.length_replicate, List.singleton_append]
  rw [show m - 1 - i - (m - (i + 1)) = 0 by omega]
  rfl

set_option maxHeartbeats 1000000 in
theorem digits_any (A : Option Addr) (c : Nat) (n : Nat) (w : World) (ha : Sl 1 wc w w.heap.size A (M.wds n)) (hc : (M.wds n).length ≤ 100) :
    Calls Try.prog 55 #[.slice A (M.wds n).length c] w (RetD w n) := by
  have hm := M.byt_bl n
  have hbl : M.bl n ≤ 32 * 100 := M.bl_wds hc
  obtain ⟨m, hmm⟩ : ∃ m, (M.bl n + 7) / 8 = m := ⟨_, rfl⟩
  have HM := Lib.hid (hm.trans hmm)
  have hmm' : m ≤ 400 := by omega
  clear hm
  by_cases h0 : m = 0
  · have HN : Hid (M.byt n = []) := Lib.hid (List.eq_nil_of_length_eq_zero (by rw [HM.out]; exact h0))
    have hb0 : M.bl n = 0 := by omega
    have HB := Lib.hid hb0
    clear hmm h0 hb0
    go_enter Try.func55, Try.ntmps55
    go_wp2_with fail
    refine (size_any A c _ n _ ha (by omega)).mono ?_
    rintro e w1 ⟨rfl, rfl⟩
    rw [HB.out]
    go_wp2_with fail
    go_ret
    exact ⟨none, 0, by rw [HN.out]; rfl, by rw [HN.out]; simp, by omega, (fun ad h => by cases h), by rw [HN.out]; exact Sl.nil_, Below.refl _ _⟩
  · obtain ⟨i0, hi, hz0, hz1, hz2⟩ := info_parts u8Info
    have Hi := Lib.hid hi; have Hz0 := Lib.hid hz0; have Hz1 := Lib.hid hz1; have Hz2 := Lib.hid hz2
    clear hi hz0 hz1 hz2
    have hm0 : 0 < m := by omega
    have hb0 : ((m : Int) == 0) = false := by simp; omega
    have hq : ((M.bl n : Nat) : Int) + 7 = (M.bl n : Int) + 7 := rfl
    have HQ : Hid (((M.bl n : Nat) : Int) + 7 ≤ 3300 ∧ (((M.bl n : Nat) : Int) + 7) / 8 = (m : Int)) := Lib.hid (by omega)
    clear hmm h0 hq
    go_enter Try.func55, Try.ntmps55
    go_wp2_with fail
    refine (size_any A c _ n _ ha (by omega)).mono ?_
    rintro e w1 ⟨rfl, rfl⟩
    have hq2 := HQ.out.2
    generalize M.bl n = b at *
    go_wp2_with (at_make; refine wpList_make_full _ rfl _ _ 46 rfl w.heap.size 5 i0 _ 1 Try.underlying46 Hi.out Hz0.out Hz1.out .i64 .i64 _ _ m rfl rfl (by omega) (by omega) (by rw [Hz2.out]; omega) (by unfold maxLen; omega) (Nat.le_refl _) ?_; intro w2 hown hg)
    have em := made_flat (cell := bc) (size := 1) (x0 := 0) (by decide) (Value.int .u8 0).cells rfl m
    rw [em] at hown
    clear em hq2 HQ
    have hB : Below w.heap.size w w2 := (Below.refl _ _).grown hg (Nat.le_refl _) (by simp)
    clear hg
    go_loopw [16] (fun i wr => ∃ k : Nat, k ≤ m ∧ i = .int .i64 k ∧ Below w.heap.size w wr ∧ wr.ownsRow w.heap.size 5 1 (.slice (some ⟨w.heap.size, 0, none⟩) m m) m (flat 1 bc (List.replicate (m - k) 0 ++ (M.byt n).drop (m - k)))) (fun i _ => m - (intOf i).toNat)
    case atStart => exact ⟨0, Nat.zero_le _, rfl, hB, by rw [Nat.sub_zero, List.drop_of_length_le (by rw [HM.out]; exact Nat.le_refl _), List.append_nil]; exact hown⟩
    case round =>
      clear hown hB
      obtain ⟨k, hk, rfl, hB, hown⟩ := hrel
      by_cases hlt : k < m
      · have hkb : k < (M.byt n).length := by rw [HM.out]; exact hlt
        obtain ⟨hq, hbyte⟩ := M.byte_of hkb
        have hat := M.byt_at hkb
        obtain ⟨ad, rfl, hab, d⟩ := ha.one_at hq
        rw [← hB.cell hab] at d
        simp only [wc] at d
        have hx32 := M.wds_lt n _ (List.getElem_mem hq)
        obtain ⟨x, hx⟩ : ∃ x, (M.wds n)[k / 4] = x := ⟨_, rfl⟩
        rw [hx] at d hbyte hx32
        have hpos : m - 1 - k < (List.replicate (m - k) 0 ++ (M.byt n).drop (m - k)).length := by
          have hlen : (List.replicate (m - k) 0 ++ (M.byt n).drop (m - k)).length = m := by simp [HM.out]
          omega
        obtain ⟨f1, f2⟩ := own_at hown hpos (j := 0) (by decide)
        have HS := Lib.hid (own_set hown hpos (j := 0) (y := (M.byt n)[m - 1 - k]'(by rw [HM.out]; omega)) (u := .int .u8 (((M.byt n)[m - 1 - k]'(by rw [HM.out]; omega) : Nat) : Int)) (by decide) rfl (fun j' h1 h2 => absurd h1 (by omega)))
        have HD := Lib.hid (drop_set (z := 0) HM.out hlt)
        have HY : Hid ((M.byt n)[m - 1 - k]'(by rw [HM.out]; omega) = x / 256 ^ (k % 4) % 256) := Lib.hid (by
          rw [hbyte, ← hat]
          simp only [HM.out])
        obtain ⟨u, hu⟩ : ∃ u, bc ((List.replicate (m - k) 0 ++ (M.byt n).drop (m - k))[m - 1 - k]) 0 = u := ⟨_, rfl⟩
        rw [hu] at f1
        simp only [Nat.mul_one, Nat.add_zero] at f1 f2
        clear hbyte hat hx hu
        go_wp2_with fail
        go_roundw
        case rel =>
          rw [byte_cast]
          refine ⟨k + 1, hlt, by go_num, hB.setCell (p := ⟨w.heap.size, _, none⟩) (Nat.le_refl _) _, ?_⟩
          have := HS.out
          rw [HD.out] at this
          simp only [HY.out, Nat.mul_one, Nat.add_zero] at this
          exact this
        case measure => simp [intOf]; omega
      · have hkm : k = m := by omega
        have o2 : wr.ownsRow w.heap.size 5 1 (.slice (some ⟨w.heap.size, 0, none⟩) m m) m (flat 1 bc (M.byt n)) := by
          have := hown
          rw [hkm, Nat.sub_self] at this
          exact this
        clear hkm hown
        obtain ⟨A2, c2, hv, hS⟩ := own_slice (by decide) o2
        obtain ⟨rfl, rfl⟩ : some ⟨w.heap.size, 0, none⟩ = A2 ∧ m = c2 := by
          injection hv with h1 h2 h3; exact ⟨h1, h3⟩
        clear hv
        go_wp2_with fail
        go_ret
        exact ⟨_, _, by rw [HM.out]; rfl, by rw [HM.out]; exact Nat.le_refl _, by omega, (fun ad h => by cases h; exact Nat.le_refl _), hS, hB⟩
end Go.Proofs.Ytpbcbomlhcbfjaa
