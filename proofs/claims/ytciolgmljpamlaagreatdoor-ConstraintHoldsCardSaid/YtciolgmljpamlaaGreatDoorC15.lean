/- A bundle of texts: Num3. -/
import Derived.Test.YtciolgmljpamlaaGreatDoorC12
import Derived.Test.YtciolgmljpamlaaGreatDoorC13
import Derived.Deep.RegionLaw
section
/- The contracts of the reference's Abs and Times. -/
namespace Go.Proofs.YtciolgmljpamlaaGreatDoor
open Go Go.RowKit
set_option maxRecDepth 100000
def RetB (w : World) (n : Nat) (e : Ending) (w' : World) : Prop := ∃ A c, e = .returned (.slice A (M.lb n).length c) ∧ Sl 1 bc w' w'.heap.size A (M.lb n) ∧ Below w.heap.size w w'
theorem b_one (x j : Nat) : (bc x j).oneCell' = true := rfl
set_option maxHeartbeats 2000000 in
theorem abs_ok (n base : Nat) (v : Value) (w : World) (hv : IsInt w base n v) (hl : (M.byt n).length ≤ 1000) :
    Calls Tryz.prog 221 #[v] w (RetB w n) := by
  obtain ⟨A, c, rfl, _, hS⟩ := hv
  have hB0 := (Below.refl w.heap.size w).alloc (Nat.le_refl _) (.cells #[.bool false, .slice A (M.byt n).length c] 220)
  have c1 : (w.alloc (.cells #[.bool false, .slice A (M.byt n).length c] 220)).cell? ⟨w.heap.size, 1, none⟩ = some (.slice A (M.byt n).length c) := by go_simp
  have s0 : w.heap.size < (w.alloc (.cells #[.bool false, .slice A (M.byt n).length c] 220)).heap.size := by simp
  have hS1 := (hS.alloc (Nat.le_refl _) (.cells #[.bool false, .slice A (M.byt n).length c] 220)).more (B' := (w.alloc (.cells #[.bool false, .slice A (M.byt n).length c] 220)).heap.size) (by simp)
  have HR := Lib.hid (M.lb_byt n)
  obtain ⟨i0, hi, hz0, hz1, hz2⟩ := info_parts u8Info
  have Hi := Lib.hid hi; have Hz0 := Lib.hid hz0; have Hz1 := Lib.hid hz1; have Hz2 := Lib.hid hz2
  clear hi hz0 hz1 hz2 hS
  go_enter Tryz.func221, Tryz.ntmps221
  go_wp2_with fail
  generalize w.alloc (.cells #[.bool false, .slice A (M.byt n).length c] 220) = W at *
  generalize M.byt n = D at *
  go_loopw [3, 4] (fun out i wr => ∃ k : Nat, k ≤ D.length ∧ i = .int .i64 ((D.length : Int) - 1 - k) ∧ Below W.heap.size W wr ∧ wr.ownsRow W.heap.size 5 1 out k (flat 1 bc (D.reverse.take k))) (fun _ i _ => (intOf i + 1).toNat)
  case atStart => exact ⟨0, Nat.zero_le _, by simp, Below.refl _ _, own_nil _ _ _ _ _⟩
  case round =>
    obtain ⟨k, hk, rfl, hB, hown⟩ := hrel
    have d1 : wr.cell? ⟨w.heap.size, 1, none⟩ = some (.slice A D.length c) := (hB.cell (p := ⟨w.heap.size, 1, none⟩) s0).trans c1
    by_cases hlt : k < D.length
    · obtain ⟨ad, rfl, hab, da⟩ := hS1.one_at (k := D.length - 1 - k) (by omega)
      rw [← hB.cell hab] at da
      simp only [bc] at da
      obtain ⟨y, hy⟩ : ∃ y, D[D.length - 1 - k] = y := ⟨_, rfl⟩
      rw [hy] at da
      have HT : Hid (D.reverse.take (k + 1) = D.reverse.take k ++ [y]) := Lib.hid (by
        rw [List.take_succ_eq_append_getElem (by simpa using hlt), List.getElem_reverse, hy])
      clear hy
      go_wp2_with (at_builtin; refine wpList_push (w0 := W) (cell := bc) (y := y) rfl _ _ _ rfl W.heap.size W.heap.size 5 i0 _ 1 Tryz.underlying245 Hi.out Hz0.out Hz1.out Hz2.out rfl (by decide) _ k _ rfl hown _ _ rfl _ rfl (b_one _) (by unfold maxLen; omega) (by omega) hB.size (Nat.le_refl _) hB ?_; intro v' w' hown' hb' _)
      go_roundw
      case rel => exact ⟨k + 1, hlt, by go_num, hb', by rw [HT.out]; exact hown'⟩
      case measure => simp [intOf]; omega
    · obtain rfl : k = D.length := by omega
      have e : D.reverse.take D.length = M.lb n := by rw [List.take_of_length_le (by simp), HR.out]
      rw [e] at hown
      obtain ⟨A2, c2, rfl, hS2⟩ := own_slice (by decide) hown
      clear e
      go_wp2_with fail
      go_ret
      exact ⟨_, _, rfl, hS2, after_ hB0 hB⟩
theorem M.mul_bd {x y : Nat} (hx : x < 256) (hy : y < 256) : x * y ≤ 65025 := by
  have : x * y ≤ 255 * 255 := Nat.mul_le_mul (by omega) (by omega)
  omega
set_option maxHeartbeats 4000000 in
theorem times_any (A D : Option Addr) (c d : Nat) (a b : Nat) (w : World) (ha : Sl 1 bc w w.heap.size A (M.lb a)) (hb : Sl 1 bc w w.heap.size D (M.lb b)) (hla : (M.lb a).length ≤ 400) (hlb : (M.lb b).length ≤ 400) :
    Calls Tryz.prog 223 #[.slice A (M.lb a).length c, .slice D (M.lb b).length d] w (RetB w (a * b)) := by
  have hva := M.lb_val a
  have hvb := M.lb_val b
  have hta := M.lb_lt a
  have htb := M.lb_lt b
  generalize M.lb a = xs at *
  generalize M.lb b = ys at *
  have HVA := Lib.hid hva
  have HVB := Lib.hid hvb
  have HTA := Lib.hid hta
  have HTB := Lib.hid htb
  clear hva hvb hta htb
  obtain ⟨i0, hi, hz0, hz1, hz2⟩ := info_parts u8Info
  have Hi := Lib.hid hi; have Hz0 := Lib.hid hz0; have Hz1 := Lib.hid hz1; have Hz2 := Lib.hid hz2
  clear hi hz0 hz1 hz2
  go_enter Tryz.func223, Tryz.ntmps223
  go_wp2_with (at_make; refine wpList_make_full _ rfl _ _ 245 rfl w.heap.size 5 i0 _ 1 Tryz.underlying245 Hi.out Hz0.out Hz1.out .i64 .i64 _ _ (xs.length + ys.length) rfl rfl (by omega) (by omega) (by rw [Hz2.out]; omega) (by unfold maxLen; omega) (Nat.le_refl _) ?_; intro w2 hown hg)
  have em := made_flat (cell := bc) (size := 1) (x0 := 0) (by decide) (Value.int .u8 0).cells rfl (xs.length + ys.length)
  rw [em] at hown
  clear em
  have hB : Below w.heap.size w w2 := (Below.refl _ _).grown hg (Nat.le_refl _) (by simp)
  clear hg
  go_loopw [6] (fun i wr => ∃ (k : Nat) (X : List Nat), k ≤ xs.length ∧ i = .int .i64 k ∧ Below w.heap.size w wr ∧ wr.ownsRow w.heap.size 5 1 (.slice (some ⟨w.heap.size, 0, none⟩) (xs.length + ys.length) (xs.length + ys.length)) (xs.length + ys.length) (flat 1 bc X) ∧ Hid (M.MulOutB xs ys X k)) (fun i _ => xs.length - (intOf i).toNat)
  case atStart => exact ⟨0, _, Nat.zero_le _, rfl, hB, hown, Lib.hid (M.MulOutB.start _ _)⟩
  case round =>
    clear hown hB
    obtain ⟨k, X, hk, rfl, hB, hown, HI⟩ := hrel
    by_cases hlt : k < xs.length
    · obtain ⟨x, hx⟩ : ∃ x, xs[k] = x := ⟨_, rfl⟩
      have hx8 : x < 256 := by rw [← hx]; exact HTA.out _ (List.getElem_mem _)
      have HX := Lib.hid hx
      clear hx
      go_wp2_with fail
      go_loopw [7, 8] (fun cc j wr => ∃ (l c : Nat) (X : List Nat), l ≤ ys.length ∧ j = .int .i64 l ∧ cc = .int .i64 (c : Int) ∧ c < 256 ∧ Below w.heap.size w wr ∧ wr.ownsRow w.heap.size 5 1 (.slice (some ⟨w.heap.size, 0, none⟩) (xs.length + ys.length) (xs.length + ys.length)) (xs.length + ys.length) (flat 1 bc X) ∧ Hid (M.MulInB xs ys X k l c x)) (fun _ j _ => ys.length - (intOf j).toNat)
      case atStart => exact ⟨0, 0, X, Nat.zero_le _, rfl, rfl, by decide, hB, hown, Lib.hid (HI.out.in_ x)⟩
      case round =>
        clear hown hB HI
        obtain ⟨l, c, X, hl, rfl, rfl, hc, hB, hown, HI⟩ := hrel
        by_cases hlt2 : l < ys.length
        · obtain ⟨ad, rfl, hab, da⟩ := ha.one_at hlt
          rw [← hB.cell hab] at da
          obtain ⟨ad2, rfl, hab2, db⟩ := hb.one_at hlt2
          rw [← hB.cell hab2] at db
          simp only [bc] at da db
          rw [HX.out] at da
          obtain ⟨y, hy⟩ : ∃ y, ys[l] = y := ⟨_, rfl⟩
          have hy8 : y < 256 := by rw [← hy]; exact HTB.out _ (List.getElem_mem _)
          rw [hy] at db
          have hq : k + l < X.length := by have := HI.out.len; omega
          obtain ⟨o, ho⟩ : ∃ o, X[k + l] = o := ⟨_, rfl⟩
          have ho8 : o < 256 := by rw [← ho]; exact HI.out.lt _ (List.getElem_mem _)
          obtain ⟨f1, f2⟩ := own_at hown hq (j := 0) (by decide)
          rw [ho] at f1
          simp only [bc, Nat.mul_one, Nat.add_zero] at f1 f2
          have hN := HI.out.step hlt2 hx8 hy hy8 hq ho
          have hm := M.mul_bd hx8 hy8
          obtain ⟨S, hS⟩ : ∃ S, c + (x * y + o) = S := ⟨_, rfl⟩
          have hSb : S < 65536 := by omega
          have eS : (o : Int) + (x : Int) * (y : Int) + (c : Int) = (S : Int) := by
            rw [← hS, Int.natCast_add, Int.natCast_add, Int.natCast_mul]; omega
          have hp0 : (0 : Int) ≤ (x : Int) * (y : Int) := Int.mul_nonneg (by omega) (by omega)
          have hp1 : (x : Int) * (y : Int) ≤ 65025 := by
            have h := Int.ofNat_le.2 hm
            rw [Int.natCast_mul] at h
            exact h
          rw [hS] at hN
          have HN := Lib.hid hN
          have hwb : w.heap.size < wr.heap.size := (own_lt hown).2
          have hab' : (ad.add k).block < wr.heap.size := Nat.lt_trans hab hwb
          have hab2' : (ad2.add l).block < wr.heap.size := Nat.lt_trans hab2 hwb
          clear ho hy hab hab2 hN hS hm
          go_wp2_with fail
          refine wp_region_kept wr.heap.size wr (by kernel_rfl) (by kernel_rfl) (Below.refl _ _) ?_
          repeat (go_big_quiet_step (fail))
          refine wpQuiet_nil ?_
          rintro w3 ⟨⟨_, hb3⟩, rfl⟩
          have hown3 := own_below hown hb3
          have hB3 := after_ hB hb3
          have HS := Lib.hid (own_set hown3 hq (j := 0) (y := S % 256) (u := .int .u8 ((S % 256 : Nat) : Int)) (by decide) rfl (fun j' h1 h2 => absurd h1 (by omega)))
          have f3 := (hb3.cell (p := ⟨w.heap.size, k + l, none⟩) hwb).trans f1
          have f4 := (hb3.frozen (p := ⟨w.heap.size, k + l, none⟩) hwb).trans f2
          clear da db eS f1 f2 hab' hab2' hown hb3
          go_wp2_with fail
          go_roundw
          case rel =>
            refine ⟨l + 1, S / 256, _, hlt2, by go_num, by rw [Int.natCast_ediv]; rfl, HN.out.car, hB3.setCell (p := ⟨w.heap.size, _, none⟩) (Nat.le_refl _) _, ?_, HN⟩
            have := HS.out
            simp only [Nat.mul_one, Nat.add_zero, Int.natCast_emod] at this
            exact this
          case measure => simp [intOf]; omega
        · obtain rfl : l = ys.length := by omega
          obtain ⟨hq, hout⟩ := HI.out.out hlt HX.out
          obtain ⟨f1, f2⟩ := own_at hown hq (j := 0) (by decide)
          have HS := Lib.hid (own_set hown hq (j := 0) (y := c) (u := .int .u8 (c : Int)) (by decide) rfl (fun j' h1 h2 => absurd h1 (by omega)))
          have HO := Lib.hid hout
          simp only [bc, Nat.mul_one, Nat.add_zero] at f1 f2
          obtain ⟨u, hu⟩ : ∃ u, X[k + ys.length] = u := ⟨_, rfl⟩
          rw [hu] at f1
          clear hu hout
          go_wp2_with fail
          go_roundw
          case rel =>
            refine ⟨k + 1, _, hlt, by go_num, hB.setCell (p := ⟨w.heap.size, _, none⟩) (Nat.le_refl _) _, ?_, HO⟩
            have := HS.out
            simp only [Nat.mul_one, Nat.add_zero] at this
            exact this
          case measure => simp [intOf]; omega
    · have hkl : k = xs.length := by omega
      have HF := Lib.hid (show M.trm X = M.lb (a * b) by
        have h := HI.out
        rw [hkl] at h
        rw [h.fin, HVA.out, HVB.out])
      have HL := Lib.hid HI.out.len
      clear hkl HI
      obtain ⟨A2, c2, hv, hS⟩ := own_slice (by decide) hown
      obtain ⟨rfl, rfl⟩ : some ⟨w.heap.size, 0, none⟩ = A2 ∧ xs.length + ys.length = c2 := by
        injection hv with h1 h2 h3; exact ⟨h1, h3⟩
      clear hv
      go_wp2_with fail
      have ht := refTrim_any (some ⟨w.heap.size, 0, none⟩) (xs.length + ys.length) _ X wr hS (by rw [HL.out]; exact Nat.le_refl _) (by omega)
      rw [HL.out] at ht
      refine ht.mono ?_
      rintro e w3 ⟨rfl, h2, rfl⟩
      rw [HF.out] at h2 ⊢
      have H2 := Lib.hid h2
      clear h2 ht
      go_wp2_with fail
      go_ret
      exact ⟨_, _, rfl, by rw [H2.out]; exact hS.take _, hB⟩
end Go.Proofs.YtciolgmljpamlaaGreatDoor
/- The contracts of the reference's Tenth and Order (against ten). -/
namespace Go.Proofs.YtciolgmljpamlaaGreatDoor
open Go Go.RowKit
set_option maxRecDepth 100000
def RetT (w : World) (n : Nat) (e : Ending) (w' : World) : Prop := ∃ A c, e = .returned (.tuple #[.slice A (M.lb (n / 10)).length c, .int .i64 ((n % 10 : Nat) : Int)]) ∧ Sl 1 bc w' w'.heap.size A (M.lb (n / 10)) ∧ Below w.heap.size w w'
set_option maxHeartbeats 2000000 in
theorem tenth_any (A : Option Addr) (c : Nat) (n : Nat) (w : World) (ha : Sl 1 bc w w.heap.size A (M.lb n)) (hl : (M.lb n).length ≤ 1000) :
    Calls Tryz.prog 225 #[.slice A (M.lb n).length c] w (RetT w n) := by
  have hv := M.lb_val n
  have ht := M.lb_lt n
  generalize M.lb n = xs at *
  have HV := Lib.hid hv
  have HT := Lib.hid ht
  clear hv ht
  obtain ⟨i0, hi, hz0, hz1, hz2⟩ := info_parts u8Info
  have Hi := Lib.hid hi; have Hz0 := Lib.hid hz0; have Hz1 := Lib.hid hz1; have Hz2 := Lib.hid hz2
  clear hi hz0 hz1 hz2
  go_enter Tryz.func225, Tryz.ntmps225
  go_wp2_with (at_make; refine wpList_make_full _ rfl _ _ 245 rfl w.heap.size 5 i0 _ 1 Tryz.underlying245 Hi.out Hz0.out Hz1.out .i64 .i64 _ _ xs.length rfl rfl rfl rfl (by rw [Hz2.out]; omega) (by unfold maxLen; omega) (Nat.le_refl _) ?_; intro w2 hown hg)
  have em := made_flat (cell := bc) (size := 1) (x0 := 0) (by decide) (Value.int .u8 0).cells rfl xs.length
  rw [em] at hown
  clear em
  have hB : Below w.heap.size w w2 := (Below.refl _ _).grown hg (Nat.le_refl _) (by simp)
  clear hg
  go_loopw [5, 6] (fun rr i wr => ∃ (k r : Nat) (q : List Nat), k ≤ xs.length ∧ i = .int .i64 ((k : Int) - 1) ∧ rr = .int .i64 (r : Int) ∧ r < 10 ∧ Below w.heap.size w wr ∧ wr.ownsRow w.heap.size 5 1 (.slice (some ⟨w.heap.size, 0, none⟩) xs.length xs.length) xs.length (flat 1 bc q) ∧ Hid (M.DivInvB xs q 10 k r)) (fun _ i _ => (intOf i + 1).toNat)
  case atStart => exact ⟨xs.length, 0, _, Nat.le_refl _, rfl, rfl, by omega, hB, hown, Lib.hid (M.DivInvB.start _ (by omega))⟩
  case round =>
    clear hown hB
    obtain ⟨k, r, q, hk, rfl, rfl, hr, hB, hown, HI⟩ := hrel
    cases k with
    | zero =>
      obtain ⟨hf1, hf2⟩ := HI.out.fin HV.out
      have HF := Lib.hid hf1
      have HR := Lib.hid hf2
      have HL := Lib.hid HI.out.len
      clear hf1 hf2 HI
      obtain ⟨A2, c2, hv, hS⟩ := own_slice (by decide) hown
      obtain ⟨rfl, rfl⟩ : some ⟨w.heap.size, 0, none⟩ = A2 ∧ xs.length = c2 := by
        injection hv with h1 h2 h3; exact ⟨h1, h3⟩
      clear hv
      go_wp2_with fail
      have ht := refTrim_any (some ⟨w.heap.size, 0, none⟩) xs.length _ q wr hS (by rw [HL.out]; exact Nat.le_refl _) (by omega)
      rw [HL.out] at ht
      refine ht.mono ?_
      rintro e w3 ⟨rfl, h2, rfl⟩
      rw [HF.out] at h2 ⊢
      have H2 := Lib.hid h2
      clear h2 ht
      go_wp2_with fail
      go_ret2
      exact ⟨_, _, by rw [HR.out]; rfl, by rw [H2.out]; exact hS.take _, hB⟩
    | succ k =>
      obtain ⟨ad, rfl, hab, da⟩ := ha.one_at (k := k) (by omega)
      rw [← hB.cell hab] at da
      simp only [bc] at da
      obtain ⟨y, hy⟩ : ∃ y, xs[k] = y := ⟨_, rfl⟩
      have hy8 : y < 256 := by rw [← hy]; exact HT.out _ (List.getElem_mem _)
      rw [hy] at da
      obtain ⟨hq8, hstep⟩ := HI.out.step (by omega) hy hy8 (by decide)
      have hkq : k < q.length := by have := HI.out.len; omega
      obtain ⟨f1, f2⟩ := own_at hown hkq (j := 0) (by decide)
      obtain ⟨u, hu⟩ : ∃ u, q[k] = u := ⟨_, rfl⟩
      rw [hu] at f1
      simp only [bc, Nat.mul_one, Nat.add_zero] at f1 f2
      have HS := Lib.hid (own_set hown hkq (j := 0) (y := (r * 256 + y) / 10) (u := .int .u8 (((r * 256 + y) / 10 : Nat) : Int)) (by decide) rfl (fun j' h1 h2 => absurd h1 (by omega)))
      have HN := Lib.hid hstep
      obtain ⟨R, hR⟩ : ∃ R, r * 256 + y = R := ⟨_, rfl⟩
      have hRb : R < 2560 := by omega
      have eR : (256 : Int) * (r : Int) + (y : Int) = (R : Int) := by omega
      rw [hR] at HS HN hq8
      clear hy hu hab hstep hR
      go_wp2_with fail
      go_roundw
      case rel =>
        refine ⟨k, R % 10, _, by omega, by go_num, by rw [Int.natCast_emod]; rfl, HN.out.rem, hB.setCell (p := ⟨w.heap.size, _, none⟩) (Nat.le_refl _) _, ?_, HN⟩
        have := HS.out
        simp only [Nat.mul_one, Nat.add_zero, Int.natCast_ediv] at this
        exact this
      case measure => simp [intOf]
def M.ord (n : Nat) : Int := if n < 10 then -1 else if n = 10 then 0 else 1
set_option maxHeartbeats 2000000 in
theorem order_ten (A : Option Addr) (c d : Nat) (ad : Addr) (n : Nat) (w : World) (ha : Sl 1 bc w w.heap.size A (M.lb n)) (hl : (M.lb n).length ≤ 1000) (ht : w.cell? ad = some (.int .u8 10)) :
    Calls Tryz.prog 224 #[.slice A (M.lb n).length c, .slice (some ad) 1 d] w fun e w' => e = .returned (.int .i64 (M.ord n)) ∧ ∃ m, w' = w.drewN m := by
  obtain ⟨L, hL⟩ : ∃ L, (M.lb n).length = L := ⟨_, rfl⟩
  rw [hL] at hl ⊢
  by_cases h0 : L = 0
  · subst h0
    have hn : n < 256 ^ 0 := M.lb_len.1 (by omega)
    have HE : Hid (M.ord n = -1) := Lib.hid (by unfold M.ord; rw [if_pos (by simp at hn; omega)])
    clear hn hL ha ht
    go_enter Tryz.func224, Tryz.ntmps224
    go_wp2_with fail
    go_ret
    exact ⟨ret_int HE.out.symm, 0, rfl⟩
  · by_cases h1 : L = 1
    · subst h1
      have hn : n < 256 ^ 1 := M.lb_len.1 (by omega)
      obtain ⟨a1, rfl, _, d1⟩ := ha.one_at (k := 0) (by omega)
      rw [M.lb_at] at d1
      simp only [bc, Nat.pow_zero, Nat.div_one, Nat.mod_eq_of_lt (show n < 256 by simpa using hn), Addr.add, if_true] at d1
      have hn' : n < 256 := by simpa using hn
      clear hn hL ha h0
      go_enter Tryz.func224, Tryz.ntmps224
      go_wp2_with fail
      go_loopw [5] (fun i wr => (i = .int .i64 0 ∧ wr = w) ∨ (i = .int .i64 (-1) ∧ n = 10 ∧ ∃ m, wr = w.drewN m)) (fun i _ => (intOf i + 1).toNat)
      case atStart => exact .inl ⟨rfl, rfl⟩
      case round =>
        rcases hrel with ⟨rfl, rfl⟩ | ⟨rfl, hn10, m, rfl⟩
        · by_cases h10 : n = 10
          · subst h10
            go_wp2_with fail
            go_quiet (fail)
            go_wp2_with fail
            go_roundw
            case rel => exact .inr ⟨rfl, trivial, _, rfl⟩
            case measure => simp [intOf]
          · have hb : ((n : Int) != 10) = true := by simp; omega
            by_cases hlt : n < 10
            · have HE : Hid (M.ord n = -1) := Lib.hid (by unfold M.ord; rw [if_pos hlt])
              have hlt' : decide ((n : Int) < 10) = true := by simp; omega
              go_wp2_with fail
              go_quiet (fail)
              go_wp2_with fail
              go_quiet (fail)
              go_wp2_with fail
              go_ret
              exact ⟨ret_int HE.out.symm, _, World.drewN_drewN _ _ _⟩
            · have HE : Hid (M.ord n = 1) := Lib.hid (by unfold M.ord; rw [if_neg hlt, if_neg h10])
              have hlt' : decide ((n : Int) < 10) = false := by simp; omega
              go_wp2_with fail
              go_quiet (fail)
              go_wp2_with fail
              go_quiet (fail)
              go_wp2_with fail
              go_ret
              exact ⟨ret_int HE.out.symm, _, World.drewN_drewN _ _ _⟩
        · have HE : Hid (M.ord n = 0) := Lib.hid (by rw [hn10]; rfl)
          clear hn10
          go_wp2_with fail
          go_ret
          exact ⟨ret_int HE.out.symm, _, rfl⟩
    · have hn : ¬ n < 256 ^ 1 := fun h => by
        have := M.lb_len.2 h
        omega
      have HE : Hid (M.ord n = 1) := Lib.hid (by unfold M.ord; rw [if_neg (by simp at hn; omega), if_neg (by simp at hn; omega)])
      have hb : ((L : Int) != 1) = true := by simp; omega
      have hlt : 1 < L := by omega
      clear hn hL ha ht h0 h1
      go_enter Tryz.func224, Tryz.ntmps224
      go_wp2_with fail
      go_ret
      exact ⟨ret_int HE.out.symm, 0, rfl⟩
end Go.Proofs.YtciolgmljpamlaaGreatDoor
/- The contract of the reference's Make at numbers from 0 on. -/
namespace Go.Proofs.YtciolgmljpamlaaGreatDoor
open Go Go.RowKit
set_option maxRecDepth 100000
theorem M.trm_lb' (n : Nat) : M.trm (M.lb n) = M.lb n := by
  rw [M.trm_lb (M.lb_lt n), M.lb_val]
theorem M.lb_rev (n : Nat) : (M.lb n).reverse = M.byt n := by rw [← M.lb_byt, List.reverse_reverse]
theorem step_push {α : Type} {P : Program} {size : Nat} {cell : α → Nat → Value} {w w0 : World} {ops : Array Oper} {o : Oper} {a : Act} {K : Act → World → Prop} {Q : Exit → Act → World → Prop} {E : Prop} (hgd : o.guard = none) (s x : Operand) (t : TypeId)
    (ho : o.op = .call { callee := .builtin .append, args := #[s, x], argTypes := #[t, t] })
    (base B : Nat) (e : TypeId) (i : TypeInfo) (z : Value) (bytes : Nat) (ht : P.underlying t = some (.slice e)) (hi : P.info? e = some i) (hz : i.zero = some z)
    (hsize : i.size = size) (hby : i.bytes = bytes) (hzs : z.cells.size = size) (hsz : 0 < size)
    (v : Value) (n : Nat) (xs : List α) (y : α) (hs : a.eval s = v) (hown : w.ownsRow base e size v n (flat size cell xs))
    (cs : Array Value) (te : TypeId) (hcs : cs.toList = (List.range size).map (cell y)) (c : Nat) (hx : a.eval x = .slice (some ⟨w.heap.size, 0, none⟩) 1 c) (h1 : ∀ j, (cell y j).oneCell' = true)
    (h63 : n + 1 ≤ maxLen) (hbytes : (n + 1) * bytes ≤ 140737488355328) (hbase : base ≤ w.heap.size) (hBb : B ≤ base) (hB : Below B w0 w)
    (h : ∀ v' w', w'.ownsRow base e size v' (n + 1) (flat size cell (xs ++ [y])) → Below B w0 w' → w.grownBy w' v.ownBlock → (∀ b, v'.ownBlock = some b → v.ownBlock = some b ∨ w.heap.size ≤ b) → K (a.put o.dst v') w') :
    if Region.wanted o (yielded ops a.tmps) = true then Oper.wp P o a (w.alloc (.cells cs te)) K Q else E := by
  have hw : Region.wanted o (yielded ops a.tmps) = true := by simp [Region.wanted, hgd]
  rw [if_pos hw]
  obtain ⟨v', w', hrun, h2, h3, _, h5⟩ := run_append_own_at (P := P) (w.alloc (.cells cs te)) base t o.type e i z size bytes ht hi hz hsize hby hzs hsz v n (flat size cell xs) (hown.alloc _) ⟨w.heap.size, 0, none⟩ 1 c cs.toList (by rw [hcs]; simp) (by
    intro j u hj
    have hb : (w.alloc (.cells cs te)).heap[w.heap.size]? = some (.cells cs te (0, 0)) := heap_alloc_new w _
    have e1 : (⟨w.heap.size, 0, none⟩ : Addr).add j = ⟨w.heap.size, j, none⟩ := by unfold Addr.add; split <;> simp_all
    rw [e1, cell_of_row _ _ _ _ _ _ hb]
    simpa using hj) (by
    intro u hu
    rw [hcs] at hu
    obtain ⟨j, _, rfl⟩ := List.mem_map.1 hu
    exact h1 j) h63 hbytes (by simp; omega)
  unfold Oper.wp execOp
  simp only [ho, resolve, invoke, builtin, Sem.run_bind, Sem.run_pure, Result.andThen_ok, List.map_toArray, List.map_cons, List.map_nil, hs, hx, hrun]
  have hg' := grown_alloc h3
  refine h v' w' (by rw [flat_append, flat_one, ← hcs]; exact h2) (hB.grown hg' (by omega) fun k hk => ?_) hg' (fun b hb => ?_)
  · have := (hown.lt k hk).1
    omega
  · rcases h5 with h5 | h5
    · exact .inl (h5 ▸ hb)
    · rw [h5] at hb
      right
      have : (w.alloc (.cells cs te)).heap.size = b := by simpa using hb
      simp at this; omega
set_option maxHeartbeats 4000000 in
theorem make_ok (A : Option Addr) (c : Nat) (n : Nat) (w : World) (ha : Sl 1 bc w w.heap.size A (M.lb n)) (hc : (M.lb n).length ≤ c) (hcm : c ≤ 9223372036854775807) (hl : (M.lb n).length ≤ 1000) :
    Calls Tryz.prog 231 #[.bool false, .slice A (M.lb n).length c] w (RetI1 w n) := by
  have hB0 := (Below.refl w.heap.size w).alloc (Nat.le_refl _) (.cells #[.bool false, .slice none 0 0] 220)
  have ha0 := (ha.alloc (Nat.le_refl _) (.cells #[.bool false, .slice none 0 0] 220))
  have HT := Lib.hid (M.trm_lb' n)
  have HR := Lib.hid (M.lb_rev n)
  obtain ⟨i0, hi, hz0, hz1, hz2⟩ := info_parts u8Info
  have Hi := Lib.hid hi; have Hz0 := Lib.hid hz0; have Hz1 := Lib.hid hz1; have Hz2 := Lib.hid hz2
  clear hi hz0 hz1 hz2
  go_enter Tryz.func231, Tryz.ntmps231
  go_wp2_with fail
  refine (refTrim_any A c _ (M.lb n) _ ha0 hc (by omega)).mono ?_
  rintro e w1 ⟨rfl, h2, rfl⟩
  rw [HT.out]
  clear h2
  have hB1 := hB0.alloc hB0.size (.cells #[.bool false, .slice none 0 0] 220)
  have x0 : Hid (((w.alloc (.cells #[.bool false, .slice none 0 0] 220)).alloc (.cells #[.bool false, .slice none 0 0] 220)).heap[w.heap.size]? = some (.cells #[.bool false, .slice none 0 0] 220 (0, 0))) := Lib.hid ((Below.heap_alloc _ _ _ (by simp)).trans (heap_alloc_new w _))
  have x1 : Hid (((w.alloc (.cells #[.bool false, .slice none 0 0] 220)).alloc (.cells #[.bool false, .slice none 0 0] 220)).heap[w.heap.size + 1]? = some (.cells #[.bool false, .slice none 0 0] 220 (0, 0))) := Lib.hid (by
    have := heap_alloc_new (w.alloc (.cells #[.bool false, .slice none 0 0] 220)) (.cells #[.bool false, .slice none 0 0] 220)
    simpa using this)
  have s0 : ((w.alloc (.cells #[.bool false, .slice none 0 0] 220)).alloc (.cells #[.bool false, .slice none 0 0] 220)).heap.size = w.heap.size + 2 := by simp
  have S0 := Lib.hid s0
  clear s0
  go_wp2_with fail
  generalize (w.alloc (.cells #[.bool false, .slice none 0 0] 220)).alloc (.cells #[.bool false, .slice none 0 0] 220) = W at *
  generalize M.lb n = D at *
  go_loopw [6] (fun i wr => ∃ (k : Nat) (v : Value), k ≤ D.length ∧ i = .int .i64 ((D.length : Int) - 1 - k) ∧ Below w.heap.size w wr ∧ wr.ownsRow (w.heap.size + 2) 5 1 v k (flat 1 bc (D.reverse.take k)) ∧ w.heap.size + 2 ≤ wr.heap.size ∧ Hid (wr.heap[w.heap.size]? = some (.cells #[.bool false, .slice none 0 0] 220 (0, 0))) ∧ Hid (wr.heap[w.heap.size + 1]? = some (.cells #[.bool false, v] 220 (0, 0)))) (fun i _ => (intOf i + 1).toNat)
  case atStart => exact ⟨0, .slice none 0 0, Nat.zero_le _, by simp, hB1, own_nil _ _ _ _ _, by rw [S0.out]; exact Nat.le_refl _, x0, x1⟩
  case round =>
    obtain ⟨k, v, hk, rfl, hB, hown, hsz, X0, X1⟩ := hrel
    have c1 : wr.cell? ⟨w.heap.size + 1, 1, none⟩ = some v := by rw [cell_of_row _ _ _ _ _ _ X1.out]; rfl
    have c0 : wr.cell? ⟨w.heap.size + 1, 0, none⟩ = some (.bool false) := by rw [cell_of_row _ _ _ _ _ _ X1.out]; rfl
    obtain ⟨Av, cv, rfl, hSv⟩ := own_slice (by decide) hown
    have hlk : (D.reverse.take k).length = k := by simp; omega
    rw [hlk] at hown X1 c1
    by_cases hlt : k < D.length
    · obtain ⟨j, hj⟩ : ∃ j : Nat, D.length - 1 - k = j := ⟨_, rfl⟩
      have hjl : j < D.length := by omega
      have hji : (D.length : Int) - 1 - k = (j : Int) := by omega
      rw [hji]
      clear hji
      obtain ⟨ad, rfl, hab, da⟩ := ha.one_at (k := j) (by omega)
      rw [← hB.cell hab] at da
      simp only [bc] at da
      obtain ⟨y, hy⟩ : ∃ y, D[j] = y := ⟨_, rfl⟩
      rw [hy] at da
      have HTk : Hid (D.reverse.take (k + 1) = D.reverse.take k ++ [y]) := Lib.hid (by
        rw [List.take_succ_eq_append_getElem (by simpa using hlt), List.getElem_reverse]; simp only [hj, hy])
      clear hy hSv
      have HL : Hid ((D.reverse.take k ++ [y]).length = k + 1) := Lib.hid (by simp; omega)
      have Hj : Hid ((j : Int) - 1 = (D.length : Int) - 1 - ((k + 1 : Nat) : Int)) := Lib.hid (by omega)
      clear hj hlk
      go_wp2_with fail
      have hs1 : w.heap.size + 1 < wr.heap.size := by omega
      have hne : ∀ q, q < w.heap.size + 2 → some q ≠ (Value.slice Av k cv).ownBlock := fun q hq e => by have := (hown.lt q e.symm).1; omega
      go_region_law ((refine step_push (w := wr.drew) (w0 := w) (cell := bc) (y := y) rfl _ _ _ rfl (w.heap.size + 2) w.heap.size 5 i0 _ 1 Tryz.underlying218 Hi.out Hz0.out Hz1.out Hz2.out rfl (by decide) (.slice Av k cv) k (D.reverse.take k) (by simp [Act.eval]) hown.drew _ _ rfl _ (by simp [Act.eval]; rfl) (b_one _) (by unfold maxLen; omega) (by omega) hsz (by omega) hB.drew ?_; intro v' w' hown' hb' hg' hat'; obtain ⟨A', c', rfl, _⟩ := own_slice (by decide) hown'; rw [HL.out] at hown' ⊢; have Y0 := Lib.hid ((hg'.block w.heap.size (by show w.heap.size < wr.heap.size; omega) (hne _ (by omega))).trans X0.out); have Y1 := Lib.hid ((hg'.block (w.heap.size + 1) (by show w.heap.size + 1 < wr.heap.size; omega) (hne _ (by omega))).trans X1.out); have d1 : w'.cell? ⟨w.heap.size + 1, 1, none⟩ = some (.slice Av k cv) := (by rw [cell_of_row _ _ _ _ _ _ Y1.out]; rfl); have f1 : w'.frozen? ⟨w.heap.size + 1, 1, none⟩ = false := (frozen_of_row _ _ _ _ _ Y1.out)))
      all_goals
        have Z0 := Lib.hid ((heap_setCell_other w' ⟨w.heap.size + 1, 1, none⟩ w.heap.size (.slice A' (k + 1) c') (by show w.heap.size ≠ w.heap.size + 1; omega)).trans Y0.out)
        have Z1 := Lib.hid (heap_setCell_same w' (w.heap.size + 1) 1 _ _ (.slice A' (k + 1) c') Y1.out)
        have hB2 := hb'.setCell (p := ⟨w.heap.size + 1, 1, none⟩) (by show w.heap.size ≤ w.heap.size + 1; omega) (.slice A' (k + 1) c')
        have hO2 := ownsRow_setCell_below hown' (a := ⟨w.heap.size + 1, 1, none⟩) (by show w.heap.size + 1 < w.heap.size + 2; omega) (.slice A' (k + 1) c')
        have hs2 : w.heap.size + 2 ≤ (w'.setCell ⟨w.heap.size + 1, 1, none⟩ (.slice A' (k + 1) c')).heap.size := by rw [World.size_setCell]; have : wr.heap.size ≤ w'.heap.size := hg'.size; omega
        rw [← HTk.out] at hO2
        generalize w'.setCell ⟨w.heap.size + 1, 1, none⟩ (.slice A' (k + 1) c') = w2 at *
        go_wp2_with fail
        go_roundw
        case rel => exact ⟨k + 1, _, hlt, by rw [Hj.out], hB2, hO2, hs2, Z0, Z1⟩
        case measure => simp [intOf]
    · obtain rfl : k = D.length := by omega
      have hneg : (D.length : Int) - 1 - (D.length : Int) = -1 := by omega
      rw [hneg]
      have ed : D.reverse.take D.length = M.byt n := by rw [List.take_of_length_le (by simp), HR.out]
      have e0 : D.length = (M.byt n).length := by rw [← HR.out]; simp
      clear hneg
      rw [ed] at hSv hown
      have hne : Hid (∀ ad, Av = some ad → ad.block ≠ w.heap.size ∧ w.heap.size ≤ ad.block) := Lib.hid (fun ad h => by
        subst h
        rcases hown.2 with ⟨h1, _⟩ | ⟨g, cap, cur, h1, _, _⟩
        · cases h1
        · have h2 := hown.lt g (by rw [h1]; rfl)
          injection h1 with h3 _ _
          injection h3 with h3
          subst h3
          show g ≠ _ ∧ _ ≤ g
          omega)
      generalize hD : D.length = dl at *
      clear hown
      have b0 : wr.cell? ⟨w.heap.size, 0, none⟩ = some (.bool false) := by rw [cell_of_row _ _ _ _ _ _ X0.out]; rfl
      have b1 : wr.cell? ⟨w.heap.size, 1, none⟩ = some (.slice none 0 0) := by rw [cell_of_row _ _ _ _ _ _ X0.out]; rfl
      have g0 : wr.frozen? ⟨w.heap.size, 0, none⟩ = false := frozen_of_row _ _ _ _ _ X0.out
      have g1 : wr.frozen? ⟨w.heap.size, 1, none⟩ = false := frozen_of_row _ _ _ _ _ X0.out
      go_wp2_with fail
      refine bodyPost_ret (v := .agg #[.bool false, .slice Av (M.byt n).length cv]) ?_ rfl ?_
      · simp [results, Tryz.results231, go_sem, b0, b1, e0]
      · refine ⟨_, rfl, ⟨Av, cv, rfl, fun ad h => (hne.out ad h).2, ?_⟩, (hB.setCell (p := ⟨w.heap.size, 0, none⟩) (Nat.le_refl _) _).setCell (p := ⟨w.heap.size, 1, none⟩) (Nat.le_refl _) _⟩
        exact ((hSv.setFar (p := ⟨w.heap.size, 0, none⟩) (fun ad h => (hne.out ad h).1) _).setFar (p := ⟨w.heap.size, 1, none⟩) (fun ad h => (hne.out ad h).1) _).more (by simp)
end Go.Proofs.YtciolgmljpamlaaGreatDoor
/- The contract of the reference's Of at numbers from 0 on. -/
namespace Go.Proofs.YtciolgmljpamlaaGreatDoor
open Go Go.RowKit
set_option maxRecDepth 100000
theorem M.lb_zero : M.lb 0 = [] := rfl
theorem M.lb_cons {m : Nat} (h : m ≠ 0) : M.lb m = (m % 256) :: M.lb (m / 256) := by
  refine (M.lb_eq ?_ ?_ ?_).symm
  · intro d hd
    rcases List.mem_cons.1 hd with rfl | hd
    · omega
    · exact M.lb_lt _ d hd
  · intro hne
    by_cases h2 : M.lb (m / 256) = []
    · have hv := M.lb_val (m / 256)
      rw [h2] at hv
      have : M.val 256 [] = 0 := rfl
      simp only [h2, List.getLast_singleton]
      omega
    · rw [List.getLast_cons h2]
      exact M.lb_canon _ h2
  · show m % 256 + 256 * M.val 256 (M.lb (m / 256)) = m
    rw [M.lb_val]; omega
theorem own_cap {w : World} {base : Nat} {e : TypeId} {size n l c : Nat} {A : Option Addr} {xs : List Value} (h : w.ownsRow base e size (.slice A l c) n xs) : n ≤ c ∧ c ≤ 9223372036854775807 ∧ (∀ ad, A = some ad → base ≤ ad.block) := by
  rcases h.2 with ⟨h1, h0⟩ | ⟨g, cap, cur, h1, h2, _, h3, h4, _⟩
  · injection h1 with h5 h6 h7
    subst h5 h7 h0
    exact ⟨Nat.le_refl _, by omega, fun _ h => by cases h⟩
  · injection h1 with h5 h6 h7
    subst h5 h7
    unfold maxLen at h4
    exact ⟨h3, by omega, fun ad h => by injection h with h; subst h; exact h2⟩
set_option maxHeartbeats 2000000 in
theorem refOf_ok (n : Nat) (w : World) (hn : n ≤ 9223372036854775807) : Calls Tryz.prog 222 #[.int .i64 (n : Int)] w (RetI1 w n) := by
  have hB0 := (Below.refl w.heap.size w).alloc (Nat.le_refl _) (.cells #[.bool false, .slice none 0 0] 220)
  have s0 : Hid ((w.alloc (.cells #[.bool false, .slice none 0 0] 220)).heap.size = w.heap.size + 1) := Lib.hid (by simp)
  have k0 : Hid ((w.alloc (.cells #[.bool false, .slice none 0 0] 220)).heap[w.heap.size]? = some (.cells #[.bool false, .slice none 0 0] 220 (0, 0))) := Lib.hid (heap_alloc_new w _)
  have hl8 : (M.lb n).length ≤ 8 := M.lb_len.2 (by have : (256 : Nat) ^ 8 = 18446744073709551616 := by decide
                                                   omega)
  obtain ⟨i0, hi, hz0, hz1, hz2⟩ := info_parts u8Info
  have Hi := Lib.hid hi; have Hz0 := Lib.hid hz0; have Hz1 := Lib.hid hz1; have Hz2 := Lib.hid hz2
  clear hi hz0 hz1 hz2
  go_enter Tryz.func222, Tryz.ntmps222
  go_wp2_with fail
  generalize w.alloc (.cells #[.bool false, .slice none 0 0] 220) = W at *
  go_loopw [3, 4, 5] (fun out m _ wr => ∃ (k : Nat) (xs : List Nat), k ≤ n ∧ m = .int .i64 k ∧ Hid (xs ++ M.lb k = M.lb n) ∧ Below w.heap.size w wr ∧ Below W.heap.size W wr ∧ wr.ownsRow W.heap.size 5 1 out xs.length (flat 1 bc xs)) (fun _ m _ _ => (intOf m).toNat)
  case atStart => exact ⟨n, [], Nat.le_refl _, rfl, Lib.hid rfl, hB0, Below.refl _ _, own_nil _ _ _ _ _⟩
  case round =>
    obtain ⟨k, xs, hk, rfl, HE, hB, hBW, hown⟩ := hrel
    have hxl : xs.length ≤ 8 := by have := congrArg List.length HE.out; simp at this; omega
    by_cases h0 : k = 0
    · subst h0
      have e := HE.out
      rw [M.lb_zero, List.append_nil] at e
      subst e
      have k1 := Lib.hid ((hBW.block w.heap.size (by have := s0.out; omega)).trans k0.out)
      obtain ⟨A2, c2, rfl, hS2⟩ := own_slice (by decide) hown
      obtain ⟨hc1, hc2, hfr⟩ := own_cap hown
      have hneg : decide ((n : Int) < 0) = false := by simp
      go_wp2_with fail
      refine (make_ok A2 c2 n wr hS2 hc1 hc2 (by omega)).mono ?_
      rintro e w2 ⟨v, rfl, ⟨A3, c3, rfl, hf3, hS3⟩, hb3⟩
      have hbb := after_ hB hb3
      have hlt : w.heap.size < wr.heap.size := by have := hBW.size; have := s0.out; omega
      have k2 := Lib.hid ((hb3.block w.heap.size hlt).trans k1.out)
      have b0 : w2.cell? ⟨w.heap.size, 0, none⟩ = some (.bool false) := by rw [cell_of_row _ _ _ _ _ _ k2.out]; rfl
      have b1 : w2.cell? ⟨w.heap.size, 1, none⟩ = some (.slice none 0 0) := by rw [cell_of_row _ _ _ _ _ _ k2.out]; rfl
      have g0 : w2.frozen? ⟨w.heap.size, 0, none⟩ = false := frozen_of_row _ _ _ _ _ k2.out
      have g1 : w2.frozen? ⟨w.heap.size, 1, none⟩ = false := frozen_of_row _ _ _ _ _ k2.out
      have hne : Hid (∀ ad, A3 = some ad → ad.block ≠ w.heap.size ∧ w.heap.size ≤ ad.block) := Lib.hid (fun ad h => by have := hf3 ad h; omega)
      clear hf3 hS2 hc1 hc2 hfr hown
      go_wp2_with fail
      refine bodyPost_ret (v := .agg #[.bool false, .slice A3 (M.byt n).length c3]) ?_ rfl ?_
      · simp [results, Tryz.results222, go_sem, b0, b1]
      · refine ⟨_, rfl, ⟨A3, c3, rfl, fun ad h => (hne.out ad h).2, ?_⟩, (hbb.setCell (p := ⟨w.heap.size, 0, none⟩) (Nat.le_refl _) _).setCell (p := ⟨w.heap.size, 1, none⟩) (Nat.le_refl _) _⟩
        exact ((hS3.setFar (p := ⟨w.heap.size, 0, none⟩) (fun ad h => (hne.out ad h).1) _).setFar (p := ⟨w.heap.size, 1, none⟩) (fun ad h => (hne.out ad h).1) _).more (by simp)
    · have HE2 := HE.out
      rw [M.lb_cons h0] at HE2
      obtain ⟨r, hr⟩ : ∃ r, k % 256 = r := ⟨_, rfl⟩
      obtain ⟨q, hq⟩ : ∃ q, k / 256 = q := ⟨_, rfl⟩
      rw [hr, hq] at HE2
      have HE3 := Lib.hid HE2
      clear HE2
      have e1 : (k : Int) % 256 = (r : Int) := by omega
      have e2 : (k : Int) / 256 = (q : Int) := by omega
      have hr2 : r < 256 := by omega
      have hqk : q < k := by omega
      have er : (r : Int) % 256 = (r : Int) := by omega
      clear hr hq
      go_wp2_with (at_builtin; refine wpList_push (w0 := w) (cell := bc) (y := r) rfl _ _ _ rfl W.heap.size w.heap.size 5 i0 _ 1 Tryz.underlying245 Hi.out Hz0.out Hz1.out Hz2.out rfl (by decide) _ xs.length _ rfl hown _ _ rfl _ rfl (b_one _) (by unfold maxLen; omega) (by omega) hBW.size hB0.size hB ?_; intro v' w' hown' hb' hg')
      go_roundw
      case rel => exact ⟨q, xs ++ [r], by omega, rfl, Lib.hid (by rw [List.append_assoc]; exact HE3.out), hb', hBW.grown hg' hBW.size (fun b hb => (hown.lt b hb).1), by rw [List.length_append]; exact hown'⟩
      case measure => simp [intOf]; omega
end Go.Proofs.YtciolgmljpamlaaGreatDoor
/- The contract of the reference's Free. -/
namespace Go.Proofs.YtciolgmljpamlaaGreatDoor
open Go Go.RowKit
set_option maxRecDepth 100000
theorem M.nd_div {n : Nat} (h : 10 ≤ n) : M.nd n = M.nd (n / 10) + 1 := by
  apply Nat.le_antisymm
  · rw [M.nd_le, Nat.pow_succ]
    have := M.nd_le.1 (Nat.le_refl (M.nd (n / 10)))
    omega
  · have h1 : 1 ≤ M.nd n := M.nd_pos (by omega)
    have h2 := M.nd_le.1 (Nat.le_refl (M.nd n))
    have h3 : M.nd (n / 10) ≤ M.nd n - 1 := by
      rw [M.nd_le]
      obtain ⟨j, hj⟩ : ∃ j, M.nd n = j + 1 := ⟨M.nd n - 1, by omega⟩
      rw [hj, Nat.pow_succ] at h2
      rw [hj, Nat.add_sub_cancel]
      omega
    omega
theorem M.nd_small {n : Nat} (h0 : n ≠ 0) (h : n < 10) : M.nd n = 1 := by
  have h1 := M.nd_pos h0
  have h2 : M.nd n ≤ 1 := M.nd_le.2 (by simpa using h)
  omega
theorem M.lb_small {n k : Nat} (hn : n ≤ 7938) (hk : k ≤ 20) : (M.lb (n ^ k)).length ≤ 400 := by
  have h1 : n ^ k ≤ 7938 ^ k := Nat.pow_le_pow_left hn k
  have h2 : 7938 ^ k ≤ 7938 ^ 20 := Nat.pow_le_pow_right (by decide) hk
  have h3 : (7938 : Nat) ^ 20 < 256 ^ 40 := by decide +kernel
  have h4 : (M.lb (n ^ k)).length ≤ 40 := M.lb_len.2 (Nat.lt_of_le_of_lt (Nat.le_trans h1 h2) h3)
  omega
theorem M.lb_mono {m n k : Nat} (h : m ≤ n) (hk : (M.lb n).length ≤ k) : (M.lb m).length ≤ k := M.lb_len.2 (Nat.lt_of_le_of_lt h (M.lb_len.1 hk))
theorem M.ord_ge {n : Nat} (h : 10 ≤ n) : 0 ≤ M.ord n := by unfold M.ord; rw [if_neg (by omega)]; split <;> decide
theorem M.ord_lt {n : Nat} (h : n < 10) : M.ord n = -1 := by unfold M.ord; rw [if_pos h]
set_option maxHeartbeats 4000000 in
theorem refFree_ok (n : Nat) (w : World) (hn : n ≤ 7938) : Calls Tryz.prog 207 #[.int .i64 (n : Int)] w fun e w' => e = .returned (.int .i64 (M.free n : Nat)) ∧ Below w.heap.size w w' := by
  by_cases h0 : n = 0
  · subst h0
    go_enter Tryz.func207, Tryz.ntmps207
    go_wp2_with fail
    go_ret
    exact ⟨rfl, Below.refl _ _⟩
  · have HF : Hid (M.free n = M.nd (n ^ 20) - 1) := Lib.hid (by unfold M.free; rw [if_neg h0])
    have h1 : (n : Int) ≠ 0 := by omega
    have hl1 := M.lb_small hn (k := 1) (by decide)
    rw [Nat.pow_one] at hl1
    have hby : (M.byt n).length ≤ 1000 := by rw [← M.lb_rev, List.length_reverse]; omega
    have hp0 : n ^ 20 ≠ 0 := Nat.ne_of_gt (Nat.pow_pos (by omega))
    have hS0 : Sl 1 bc (w.alloc (.cells #[.int .u8 1] 5)) (w.alloc (.cells #[.int .u8 1] 5)).heap.size (some ⟨w.heap.size, 0, none⟩) [1] := Sl.of_new rfl
    have hB0 := (Below.refl w.heap.size w).alloc (Nat.le_refl _) (.cells #[.int .u8 1] 5)
    go_enter Tryz.func207, Tryz.ntmps207
    go_wp2_with fail
    generalize w.alloc (.cells #[.int .u8 1] 5) = W at *
    refine (refOf_ok n W (by omega)).mono ?_
    rintro e w1 ⟨v, rfl, hv, hb1⟩
    go_wp2_with fail
    refine (abs_ok n _ v w1 hv hby).mono ?_
    rintro e w2 ⟨Af, cf, rfl, hSf, hb2⟩
    have hB2 := after_ (after_ hB0 hb1) hb2
    have hS2 := (hS0.below (hb1)).more (after_ (Below.refl _ _) hb1).size
    have hS3 := (hS2.below hb2).more hb2.size
    clear hS2 hS0 hv hb1 hb2 hB0
    go_wp2_with fail
    go_loopw [3, 5] (fun p i wr => ∃ (k : Nat) (A : Option Addr) (c : Nat), k ≤ 20 ∧ i = .int .i64 k ∧ p = .slice A (M.lb (n ^ k)).length c ∧ Sl 1 bc wr wr.heap.size A (M.lb (n ^ k)) ∧ Sl 1 bc wr wr.heap.size Af (M.lb n) ∧ Below w.heap.size w wr) (fun _ i _ => 20 - (intOf i).toNat)
    case atStart => exact ⟨0, _, _, by omega, rfl, rfl, hS3, hSf, hB2⟩
    case round =>
      obtain ⟨k, A, c, hk, rfl, rfl, hS, hSf, hB⟩ := hrel
      by_cases hlt : k < 20
      · go_wp2_with fail
        refine (times_any A Af c cf (n ^ k) n wr hS hSf (M.lb_small hn hk) hl1).mono ?_
        rintro e w3 ⟨A3, c3, rfl, hS3, hb3⟩
        go_wp2_with fail
        go_roundw
        case rel => exact ⟨k + 1, A3, c3, by omega, by go_num, rfl, hS3, (hSf.below hb3).more hb3.size, after_ hB hb3⟩
        case measure => simp [intOf]; omega
      · obtain rfl : k = 20 := by omega
        have hl := M.lb_small hn (k := 20) (by decide)
        have hnd := M.nd_512 hn
        generalize n ^ 20 = P at *
        clear hSf hS3 hB2
        go_wp2_with fail
        go_loopw [3, 6, 7, 8] (fun p k _ _ wr => ∃ (m K : Nat) (A : Option Addr) (c : Nat), m ≠ 0 ∧ M.nd m + K = M.nd P ∧ (M.lb m).length ≤ 400 ∧ k = .int .i64 K ∧ p = .slice A (M.lb m).length c ∧ Sl 1 bc wr wr.heap.size A (M.lb m) ∧ Below w.heap.size w wr) (fun _ k _ _ _ => M.nd P - (intOf k).toNat)
        case atStart => exact ⟨P, 0, A, c, hp0, rfl, hl, rfl, rfl, hS, hB⟩
        case round =>
          obtain ⟨m, K, A, c, hm, hK, hl, rfl, rfl, hS, hB⟩ := hrel
          have hK5 : K ≤ 512 := by omega
          have hS0 := (hS.alloc (Nat.le_refl _) (.cells #[.int .u8 10] 5)).more (B' := (wr.alloc (.cells #[.int .u8 10] 5)).heap.size) (by simp)
          have hB0 := hB.alloc hB.size (.cells #[.int .u8 10] 5)
          have ht : (wr.alloc (.cells #[.int .u8 10] 5)).cell? ⟨wr.heap.size, 0, none⟩ = some (.int .u8 10) := by rw [cell_of_row _ _ _ _ _ _ (heap_alloc_new wr _)]; rfl
          go_wp2_with fail
          refine (order_ten A c 1 _ m _ hS0 (by omega) ht).mono ?_
          rintro e w3 ⟨rfl, nd, rfl⟩
          have hS1 := hS0.drewN nd
          have hB1 := below_drewN hB0 nd
          have hS2 : Sl 1 bc ((wr.alloc (.cells #[.int .u8 10] 5)).drewN nd) ((wr.alloc (.cells #[.int .u8 10] 5)).drewN nd).heap.size A (M.lb m) := hS1
          clear hS0 hB0 ht hS1
          generalize (wr.alloc (.cells #[.int .u8 10] 5)).drewN nd = w3 at *
          by_cases h10 : 10 ≤ m
          · have ho := M.ord_ge h10
            have HN := Lib.hid (M.nd_div h10)
            generalize M.ord m = om at *
            go_wp2_with fail
            refine (tenth_any A c m w3 hS2 (by omega)).mono ?_
            rintro e w4 ⟨A4, c4, rfl, hS4, hb4⟩
            go_wp2_with fail
            go_roundw
            case rel => exact ⟨_, _, _, _, _, _, _, _, _, _, _, _, _, _, _, _, ⟨m / 10, K + 1, A4, c4, by omega, by have := HN.out; omega, M.lb_mono (Nat.div_le_self _ _) hl, by go_num, rfl, hS4, after_ hB1 hb4⟩, rfl⟩
            case measure => have := HN.out; simp [intOf]; omega
          · have ho := M.ord_lt (Nat.lt_of_not_le h10)
            have HN := Lib.hid (M.nd_small hm (Nat.lt_of_not_le h10))
            rw [ho]
            have hk : ((K : Nat) : Int) = ((M.free n : Nat) : Int) := by have := HN.out; have := HF.out; omega
            go_wp2_with fail
            go_ret
            exact ⟨rfl, hB1⟩
end Go.Proofs.YtciolgmljpamlaaGreatDoor
end
