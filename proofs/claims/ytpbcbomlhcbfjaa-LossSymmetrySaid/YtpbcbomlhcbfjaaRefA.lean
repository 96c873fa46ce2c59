/- The contracts of the reference's Abs and Times. -/
import Derived.Test.YtpbcbomlhcbfjaaTrimB
import Derived.Test.YtpbcbomlhcbfjaaBuild
namespace Go.Proofs.Ytpbcbomlhcbfjaa
open Go Go.RowKit

/-- A call that returns the bytes of a number, the lowest first. -/
def RetB (w : World) (n : Nat) (e : Ending) (w' : World) : Prop := ∃ A c, e = .returned (.slice A (M.lb n).length c) ∧ Sl 1 bc w' w'.heap.size A (M.lb n) ∧ Below w.heap.size w w'
theorem b_one (x j : Nat) : (bc x j).oneCell' = true := rfl

set_option maxHeartbeats 2000000 in
theorem abs_ok (n base : Nat) (v : Value) (w : World) (hv : IsInt w base n v) (hl : (M.byt n).length ≤ 1000) :
    Calls Try.prog 27 #[v] w (RetB w n) := by
  obtain ⟨A, c, rfl, _, hS⟩ := hv
  have hB0 := (Below.refl w.heap.size w).alloc (Nat.le_refl _) (.cells #[.bool false, .slice A (M.byt n).length c] 48)
  have c1 : (w.alloc (.cells #[.bool false, .slice A (M.byt n).length c] 48)).cell? ⟨w.heap.size, 1, none⟩ = some (.slice A (M.byt n).length c) := by go_simp
  have s0 : w.heap.size < (w.alloc (.cells #[.bool false, .slice A (M.byt n).length c] 48)).heap.size := by simp
  have hS1 := (hS.alloc (Nat.le_refl _) (.cells #[.bool false, .slice A (M.byt n).length c] 48)).more (B' := (w.alloc (.cells #[.bool false, .slice A (M.byt n).length c] 48)).heap.size) (by simp)
  have HR := Lib.hid (M.lb_byt n)
  obtain ⟨i0, hi, hz0, hz1, hz2⟩ := info_parts u8Info
  have Hi := Lib.hid hi; have Hz0 := Lib.hid hz0; have Hz1 := Lib.hid hz1; have Hz2 := Lib.hid hz2
  clear hi hz0 hz1 hz2 hS
  go_enter Try.func27, Try.ntmps27
  go_wp2_with fail
  generalize w.alloc (.cells #[.bool false, .slice A (M.byt n).length c] 48) = W at *
  generalize M.byt n = D at *
  go_loopw [3, 4] (fun out i wr => ∃ k : Nat, k ≤ D.length ∧ i = .int .i64 ((D.length : Int) - 1 - k) ∧ Below W.heap.size W wr ∧ wr.ownsRow W.heap.size 5 1 out k (flat 1 bc (D.reverse.take k))) (fun _ i _ => (intOf i + 1).toNat)
  case atStart => exact ⟨0, Nat.zero_le _, by simp, Below.refl _ _, own_nil _ _ _ _ _⟩
  case round =>
    obtain ⟨k, hk, rfl, hB, hown⟩ := hrel
    have d1 : wr.cell? ⟨w.heap.size, 1, none⟩ = some (.slice A D.length c) := (hB.cell (p := ⟨w.heap.size, 1, none⟩) s0).trans c1
    by_cases hlt : k < D.length
    · obtain ⟨ad, rfl, hab, da⟩ := hS1.one_at (k := D.length - 1 - k) (by omega)
      rw [← hB.cell hab] at da
      simp only [bc] at da
      obtain ⟨y, hy⟩ : ∃ y, D[D.length - 1 - k] = y := ⟨_, rfl⟩
      rw [hy] at da
      have HT : Hid (D.reverse.take (k + 1) = D.reverse.take k ++ [y]) := Lib.hid (by
        rw [List.take_succ_eq_append_getElem (by simpa using hlt), List.getElem_reverse, hy])
      clear hy
      go_wp2_with (at_builtin; refine wpList_push (w0 := W) (cell := bc) (y := y) rfl _ _ _ rfl W.heap.size W.heap.size 5 i0 _ 1 Try.underlying55 Hi.out Hz0.out Hz1.out Hz2.out rfl (by decide) _ k _ rfl hown _ _ rfl _ rfl (b_one _) (by unfold maxLen; omega) (by omega) hB.size (Nat.le_refl _) hB ?_; intro v' w' hown' hb' _)
      go_roundw
      case rel => exact ⟨k + 1, hlt, by go_num, hb', by rw [HT.out]; exact hown'⟩
      case measure => simp [intOf]; omega
    · obtain rfl : k = D.length := by omega
      have e : D.reverse.take D.length = M.lb n := by rw [List.take_of_length_le (by simp), HR.out]
      rw [e] at hown
      obtain ⟨A2, c2, rfl, hS2⟩ := own_slice (by decide) hown
      clear e
      go_wp2_with fail
      go_ret
      exact ⟨_, _, rfl, hS2, after_ hB0 hB⟩

theorem M.mul_bd {x y : Nat} (hx : x < 256) (hy : y < 256) : x * y ≤ 65025 := by
  have : x * y ≤ 255 * 255 := Nat.mul_le_mul (by omega) (by omega)
  omega

set_option maxHeartbeats 4000000 in
theorem times_any (A D : Option Addr) (c d : Nat) (a b : Nat) (w : World) (ha : Sl 1 bc w w.heap.size A (M.lb a)) (hb : Sl 1 bc w w.heap.size D (M.lb b)) (hla : (M.lb a).length ≤ 400) (hlb : (M.lb b).length ≤ 400) :
    Calls Try.prog 28 #[.slice A (M.lb a).length c, .slice D (M.lb b).length d] w (RetB w (a * b)) := by
  have hva := M.lb_val a
  have hvb := M.lb_val b
  have hta := M.lb_lt a
  have htb := M.lb_lt b
  generalize M.lb a = xs at *
  generalize M.lb b = ys at *
  have HVA := Lib.hid hva
  have HVB := Lib.hid hvb
  have HTA := Lib.hid hta
  have HTB := Lib.hid htb
  clear hva hvb hta htb
  obtain ⟨i0, hi, hz0, hz1, hz2⟩ := info_parts u8Info
  have Hi := Lib.hid hi; have Hz0 := Lib.hid hz0; have Hz1 := Lib.hid hz1; have Hz2 := Lib.hid hz2
  clear hi hz0 hz1 hz2
  go_enter Try.func28, Try.ntmps28
  go_wp2_with (at_make; refine wpList_make_full _ rfl _ _ 55 rfl w.heap.size 5 i0 _ 1 Try.underlying55 Hi.out Hz0.out Hz1.out .i64 .i64 _ _ (xs.length + ys.length) rfl rfl (by omega) (by omega) (by rw [Hz2.out]; omega) (by unfold maxLen; omega) (Nat.le_refl _) ?_; intro w2 hown hg)
  have em := made_flat (cell := bc) (size := 1) (x0 := 0) (by decide) (Value.int .u8 0).cells rfl (xs.length + ys.length)
  rw [em] at hown
  clear em
  have hB : Below w.heap.size w w2 := (Below.refl _ _).grown hg (Nat.le_refl _) (by simp)
  clear hg
  go_loopw [6] (fun i wr => ∃ (k : Nat) (X : List Nat), k ≤ xs.length ∧ i = .int .i64 k ∧ Below w.heap.size w wr ∧ wr.ownsRow w.heap.size 5 1 (.slice (some ⟨w.heap.size, 0, none⟩) (xs.length + ys.length) (xs.length + ys.length)) (xs.length + ys.length) (flat 1 bc X) ∧ Hid (M.MulOutB xs ys X k)) (fun i _ => xs.length - (intOf i).toNat)
  case atStart => exact ⟨0, _, Nat.zero_le _, rfl, hB, hown, Lib.hid (M.MulOutB.start _ _)⟩
  case round =>
    clear hown hB
    obtain ⟨k, X, hk, rfl, hB, hown, HI⟩ := hrel
    by_cases hlt : k < xs.length
    · obtain ⟨x, hx⟩ : ∃ x, xs[k] = x := ⟨_, rfl⟩
      have hx8 : x < 256 := by rw [← hx]; exact HTA.out _ (List.getElem_mem _)
      have HX := Lib.hid hx
      clear hx
      go_wp2_with fail
      go_loopw [7, 8] (fun cc j wr => ∃ (l c : Nat) (X : List Nat), l ≤ ys.length ∧ j = .int .i64 l ∧ cc = .int .i64 (c : Int) ∧ c < 256 ∧ Below w.heap.size w wr ∧ wr.ownsRow w.heap.size 5 1 (.slice (some ⟨w.heap.size, 0, none⟩) (xs.length + ys.length) (xs.length + ys.length)) (xs.length + ys.length) (flat 1 bc X) ∧ Hid (M.MulInB xs ys X k l c x)) (fun _ j _ => ys.length - (intOf j).toNat)
      case atStart => exact ⟨0, 0, X, Nat.zero_le _, rfl, rfl, by decide, hB, hown, Lib.hid (HI.out.in_ x)⟩
      case round =>
        clear hown hB HI
        obtain ⟨l, c, X, hl, rfl, rfl, hc, hB, hown, HI⟩ := hrel
        by_cases hlt2 : l < ys.length
        · obtain ⟨ad, rfl, hab, da⟩ := ha.one_at hlt
          rw [← hB.cell hab] at da
          obtain ⟨ad2, rfl, hab2, db⟩ := hb.one_at hlt2
          rw [← hB.cell hab2] at db
          simp only [bc] at da db
          rw [HX.out] at da
          obtain ⟨y, hy⟩ : ∃ y, ys[l] = y := ⟨_, rfl⟩
          have hy8 : y < 256 := by rw [← hy]; exact HTB.out _ (List.getElem_mem _)
          rw [hy] at db
          have hq : k + l < X.length := by have := HI.out.len; omega
          obtain ⟨o, ho⟩ : ∃ o, X[k + l] = o := ⟨_, rfl⟩
          have ho8 : o < 256 := by rw [← ho]; exact HI.out.lt _ (List.getElem_mem _)
          obtain ⟨f1, f2⟩ := own_at hown hq (j := 0) (by decide)
          rw [ho] at f1
          simp only [bc, Nat.mul_one, Nat.add_zero] at f1 f2
          have hN := HI.out.step hlt2 hx8 hy hy8 hq ho
          have hm := M.mul_bd hx8 hy8
          obtain ⟨S, hS⟩ : ∃ S, c + (x * y + o) = S := ⟨_, rfl⟩
          have hSb : S < 65536 := by omega
          have eS : (o : Int) + (x : Int) * (y : Int) + (c : Int) = (S : Int) := by
            rw [← hS, Int.natCast_add, Int.natCast_add, Int.natCast_mul]; omega
          have hp0 : (0 : Int) ≤ (x : Int) * (y : Int) := Int.mul_nonneg (by omega) (by omega)
          have hp1 : (x : Int) * (y : Int) ≤ 65025 := by
            have h := Int.ofNat_le.2 hm
            rw [Int.natCast_mul] at h
            exact h
          rw [hS] at hN
          have HN := Lib.hid hN
          have hwb : w.heap.size < wr.heap.size := (own_lt hown).2
          have hab' : (ad.add k).block < wr.heap.size := Nat.lt_trans hab hwb
          have hab2' : (ad2.add l).block < wr.heap.size := Nat.lt_trans hab2 hwb
          clear ho hy hab hab2 hN hS hm
          go_wp2_with fail
          refine wp_region_kept wr.heap.size wr (by kernel_rfl) (by kernel_rfl) (Below.refl _ _) ?_
          repeat (go_big_quiet_step (fail))
          refine wpQuiet_nil ?_
          rintro w3 ⟨⟨_, hb3⟩, rfl⟩
          have hown3 := own_below hown hb3
          have hB3 := after_ hB hb3
          have HS := Lib.hid (own_set hown3 hq (j := 0) (y := S % 256) (u := .int .u8 ((S % 256 : Nat) : Int)) (by decide) rfl (fun j' h1 h2 => absurd h1 (by omega)))
          have f3 := (hb3.cell (p := ⟨w.heap.size, k + l, none⟩) hwb).trans f1
          have f4 := (hb3.frozen (p := ⟨w.heap.size, k + l, none⟩) hwb).trans f2
          clear da db eS f1 f2 hab' hab2' hown hb3
          go_wp2_with fail
          go_roundw
          case rel =>
            refine ⟨l + 1, S / 256, _, hlt2, by go_num, by rw [Int.natCast_ediv]; rfl, HN.out.car, hB3.setCell (p := ⟨w.heap.size, _, none⟩) (Nat.le_refl _) _, ?_, HN⟩
            have := HS.out
            simp only [Nat.mul_one, Nat.add_zero, Int.natCast_emod] at this
            exact this
          case measure => simp [intOf]; omega
        · obtain rfl : l = ys.length := by omega
          obtain ⟨hq, hout⟩ := HI.out.out hlt HX.out
          obtain ⟨f1, f2⟩ := own_at hown hq (j := 0) (by decide)
          have HS := Lib.hid (own_set hown hq (j := 0) (y := c) (u := .int .u8 (c : Int)) (by decide) rfl (fun j' h1 h2 => absurd h1 (by omega)))
          have HO := Lib.hid hout
          simp only [bc, Nat.mul_one, Nat.add_zero] at f1 f2
          obtain ⟨u, hu⟩ : ∃ u, X[k + ys.length] = u := ⟨_, rfl⟩
          rw [hu] at f1
          clear hu hout
          go_wp2_with fail
          go_roundw
          case rel =>
            refine ⟨k + 1, _, hlt, by go_num, hB.setCell (p := ⟨w.heap.size, _, none⟩) (Nat.le_refl _) _, ?_, HO⟩
            have := HS.out
            simp only [Nat.mul_one, Nat.add_zero] at this
            exact this
          case measure => simp [intOf]; omega
    · have hkl : k = xs.length := by omega
      have HF := Lib.hid (show M.trm X = M.lb (a * b) by
        have h := HI.out
        rw [hkl] at h
        rw [h.fin, HVA.out, HVB.out])
      have HL := Lib.hid HI.out.len
      clear hkl HI
      obtain ⟨A2, c2, hv, hS⟩ := own_slice (by decide) hown
      obtain ⟨rfl, rfl⟩ : some ⟨w.heap.size, 0, none⟩ = A2 ∧ xs.length + ys.length = c2 := by
        injection hv with h1 h2 h3; exact ⟨h1, h3⟩
      clear hv
      go_wp2_with fail
      have ht := refTrim_any (some ⟨w.heap.size, 0, none⟩) (xs.length + ys.length) _ X wr hS (by rw [HL.out]; exact Nat.le_refl _) (by omega)
      rw [HL.out] at ht
      refine ht.mono ?_
      rintro e w3 ⟨rfl, h2, rfl⟩
      rw [HF.out] at h2 ⊢
      have H2 := Lib.hid h2
      clear h2 ht
      go_wp2_with fail
      go_ret
      exact ⟨_, _, rfl, by rw [H2.out]; exact hS.take _, hB⟩
end Go.Proofs.Ytpbcbomlhcbfjaa
