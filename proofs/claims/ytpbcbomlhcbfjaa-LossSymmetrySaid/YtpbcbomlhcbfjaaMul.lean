/- The contract of number.mulNat. -/
import Derived.Test.YtpbcbomlhcbfjaaNatOf
namespace Go.Proofs.Ytpbcbomlhcbfjaa
open Go Go.RowKit

set_option maxHeartbeats 2000000 in
theorem mulNat_any (A D : Option Addr) (c d : Nat) (a b : Nat) (w : World) (ha : Sl 1 wc w w.heap.size A (M.wds a)) (hb : Sl 1 wc w w.heap.size D (M.wds b)) (hla : (M.wds a).length ≤ 100) (hlb : (M.wds b).length ≤ 100) :
    Calls Try.prog 40 #[.slice A (M.wds a).length c, .slice D (M.wds b).length d] w (RetN w (a * b)) := by
  have hva := M.wds_val a
  have hvb := M.wds_val b
  have hta := M.wds_lt a
  have htb := M.wds_lt b
  generalize M.wds a = xs at *
  generalize M.wds b = ys at *
  have HVA := Lib.hid hva
  have HVB := Lib.hid hvb
  have HTA := Lib.hid hta
  have HTB := Lib.hid htb
  clear hva hvb hta htb
  obtain ⟨i0, hi, hz0, hz1, hz2⟩ := info_parts u32Info
  have Hi := Lib.hid hi; have Hz0 := Lib.hid hz0; have Hz1 := Lib.hid hz1; have Hz2 := Lib.hid hz2
  clear hi hz0 hz1 hz2
  go_enter Try.func40, Try.ntmps40
  go_wp2_with (at_make; refine wpList_make_full _ rfl _ _ 70 rfl w.heap.size 73 i0 _ 1 Try.underlying70 Hi.out Hz0.out Hz1.out .i64 .i64 _ _ (xs.length + ys.length) rfl rfl (by omega) (by omega) (by rw [Hz2.out]; omega) (by unfold maxLen; omega) (Nat.le_refl _) ?_; intro w2 hown hg)
  have em := made_flat (cell := wc) (size := 1) (x0 := 0) (by decide) (Value.int .u32 0).cells rfl (xs.length + ys.length)
  rw [em] at hown
  clear em
  have hB : Below w.heap.size w w2 := (Below.refl _ _).grown hg (Nat.le_refl _) (by simp)
  clear hg
  go_loopw [19] (fun i wr => ∃ (k : Nat) (X : List Nat), k ≤ xs.length ∧ i = .int .i64 k ∧ Below w.heap.size w wr ∧ wr.ownsRow w.heap.size 73 1 (.slice (some ⟨w.heap.size, 0, none⟩) (xs.length + ys.length) (xs.length + ys.length)) (xs.length + ys.length) (flat 1 wc X) ∧ Hid (M.MulOut xs ys X k)) (fun i _ => xs.length - (intOf i).toNat)
  case atStart => exact ⟨0, _, Nat.zero_le _, rfl, hB, hown, Lib.hid (M.MulOut.start _ _)⟩
  case round =>
    clear hown hB
    obtain ⟨k, X, hk, rfl, hB, hown, HI⟩ := hrel
    by_cases hlt : k < xs.length
    · obtain ⟨ad, rfl, hab, da⟩ := ha.one_at hlt
      rw [← hB.cell hab] at da
      simp only [wc] at da
      obtain ⟨x, hx⟩ : ∃ x, xs[k] = x := ⟨_, rfl⟩
      have hx32 : x < 4294967296 := by rw [← hx]; exact HTA.out _ (List.getElem_mem _)
      rw [hx] at da
      have HX := Lib.hid hx
      clear hx
      go_wp2_with fail
      go_loopw [8, 26] (fun cc j wr => ∃ (l c : Nat) (X : List Nat), l ≤ ys.length ∧ j = .int .i64 l ∧ cc = .int .u64 (c : Int) ∧ c < 4294967296 ∧ Below w.heap.size w wr ∧ wr.ownsRow w.heap.size 73 1 (.slice (some ⟨w.heap.size, 0, none⟩) (xs.length + ys.length) (xs.length + ys.length)) (xs.length + ys.length) (flat 1 wc X) ∧ Hid (M.MulIn xs ys X k l c x)) (fun _ j _ => ys.length - (intOf j).toNat)
      case atStart => exact ⟨0, 0, X, Nat.zero_le _, rfl, rfl, by decide, hB, hown, Lib.hid (HI.out.in_ x)⟩
      case round =>
        clear hown hB HI da hab
        obtain ⟨l, c, X, hl, rfl, rfl, hc, hB, hown, HI⟩ := hrel
        by_cases hlt2 : l < ys.length
        · obtain ⟨ad2, rfl, hab, db⟩ := hb.one_at hlt2
          rw [← hB.cell hab] at db
          simp only [wc] at db
          obtain ⟨y, hy⟩ : ∃ y, ys[l] = y := ⟨_, rfl⟩
          have hy32 : y < 4294967296 := by rw [← hy]; exact HTB.out _ (List.getElem_mem _)
          rw [hy] at db
          have hq : k + l < X.length := by have := HI.out.len; omega
          obtain ⟨o, ho⟩ : ∃ o, X[k + l] = o := ⟨_, rfl⟩
          have ho32 : o < 4294967296 := by rw [← ho]; exact HI.out.lt _ (List.getElem_mem _)
          obtain ⟨f1, f2⟩ := own_at hown hq (j := 0) (by decide)
          rw [ho] at f1
          simp only [wc, Nat.mul_one, Nat.add_zero] at f1 f2
          have HN := Lib.hid (HI.out.step hlt2 hx32 hy hy32 hq ho)
          have HS := Lib.hid (own_set hown hq (j := 0) (y := (c + (x * y + o)) % 4294967296) (u := .int .u32 (((c + (x * y + o)) % 4294967296 : Nat) : Int)) (by decide) rfl (fun j' h1 h2 => absurd h1 (by omega)))
          have hbd := M.carry_bd hx32 hy32 ho32 hc
          have hp0 : (0 : Int) ≤ (x : Int) * (y : Int) := Int.mul_nonneg (by omega) (by omega)
          have hp1 : (x : Int) * (y : Int) + o + c < 18446744073709551616 := by
            have h := Int.ofNat_lt.2 hbd
            rw [Int.natCast_add, Int.natCast_add, Int.natCast_mul] at h
            exact h
          clear hbd ho hy hab
          go_wp2_with fail
          have ec : ((c : Int) + ((x : Int) * (y : Int) + (o : Int))) = ((c + (x * y + o) : Nat) : Int) := by
            rw [Int.natCast_add, Int.natCast_add, Int.natCast_mul]
          go_roundw
          case rel =>
            rw [ec]
            refine ⟨l + 1, (c + (x * y + o)) / 4294967296, _, hlt2, by go_num, by rw [Int.natCast_ediv]; rfl, HN.out.car, hB.setCell (p := ⟨w.heap.size, _, none⟩) (Nat.le_refl _) _, ?_, HN⟩
            have := HS.out
            simp only [Nat.mul_one, Nat.add_zero, Int.natCast_emod] at this
            exact this
          case measure => simp [intOf]; omega
        · obtain rfl : l = ys.length := by omega
          obtain ⟨hq, hout⟩ := HI.out.out hlt HX.out
          obtain ⟨f1, f2⟩ := own_at hown hq (j := 0) (by decide)
          have HS := Lib.hid (own_set hown hq (j := 0) (y := c) (u := .int .u32 (c : Int)) (by decide) rfl (fun j' h1 h2 => absurd h1 (by omega)))
          have HO := Lib.hid hout
          simp only [wc, Nat.mul_one, Nat.add_zero] at f1 f2
          obtain ⟨u, hu⟩ : ∃ u, X[k + ys.length] = u := ⟨_, rfl⟩
          rw [hu] at f1
          clear hu hout
          go_wp2_with fail
          go_roundw
          case rel =>
            refine ⟨k + 1, _, hlt, by go_num, hB.setCell (p := ⟨w.heap.size, _, none⟩) (Nat.le_refl _) _, ?_, HO⟩
            have := HS.out
            simp only [Nat.mul_one, Nat.add_zero] at this
            exact this
          case measure => simp [intOf]; omega
    · have hkl : k = xs.length := by omega
      have HF := Lib.hid (show M.trm X = M.wds (a * b) by
        have h := HI.out
        rw [hkl] at h
        rw [h.fin, HVA.out, HVB.out])
      have HL := Lib.hid HI.out.len
      clear hkl HI
      obtain ⟨A2, c2, hv, hS⟩ := own_slice (by decide) hown
      obtain ⟨rfl, rfl⟩ : some ⟨w.heap.size, 0, none⟩ = A2 ∧ xs.length + ys.length = c2 := by
        injection hv with h1 h2 h3; exact ⟨h1, h3⟩
      clear hv
      go_wp2_with fail
      have ht := trim_any (some ⟨w.heap.size, 0, none⟩) (xs.length + ys.length) _ X wr hS (by rw [HL.out]; exact Nat.le_refl _) (by omega)
      rw [HL.out] at ht
      refine ht.mono ?_
      rintro e w3 ⟨rfl, h2, rfl⟩
      rw [HF.out] at h2 ⊢
      have hlen : (M.wds (a * b)).length ≤ X.length := by
        rw [h2]; simp; omega
      have H2 := Lib.hid h2
      clear h2 ht
      go_wp2_with fail
      go_ret
      exact ⟨_, _, rfl, by have := HL.out; omega, by omega, by rw [H2.out]; exact hS.take _, hB⟩
end Go.Proofs.Ytpbcbomlhcbfjaa
