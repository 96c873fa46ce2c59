/- A bundle of texts: Num2. -/
import Derived.Test.YtciolgmljpamlaaGreatDoorC12
section
/- The contract of number.mulNat. -/
namespace Go.Proofs.YtciolgmljpamlaaGreatDoor
open Go Go.RowKit
set_option maxRecDepth 100000
set_option maxHeartbeats 2000000 in
theorem mulNat_any (A D : Option Addr) (c d : Nat) (a b : Nat) (w : World) (ha : Sl 1 wc w w.heap.size A (M.wds a)) (hb : Sl 1 wc w w.heap.size D (M.wds b)) (hla : (M.wds a).length ≤ 100) (hlb : (M.wds b).length ≤ 100) :
    Calls Tryz.prog 216 #[.slice A (M.wds a).length c, .slice D (M.wds b).length d] w (RetN w (a * b)) := by
  have hva := M.wds_val a
  have hvb := M.wds_val b
  have hta := M.wds_lt a
  have htb := M.wds_lt b
  generalize M.wds a = xs at *
  generalize M.wds b = ys at *
  have HVA := Lib.hid hva
  have HVB := Lib.hid hvb
  have HTA := Lib.hid hta
  have HTB := Lib.hid htb
  clear hva hvb hta htb
  obtain ⟨i0, hi, hz0, hz1, hz2⟩ := info_parts u32Info
  have Hi := Lib.hid hi; have Hz0 := Lib.hid hz0; have Hz1 := Lib.hid hz1; have Hz2 := Lib.hid hz2
  clear hi hz0 hz1 hz2
  go_enter Tryz.func216, Tryz.ntmps216
  go_wp2_with (at_make; refine wpList_make_full _ rfl _ _ 237 rfl w.heap.size 181 i0 _ 1 Tryz.underlying237 Hi.out Hz0.out Hz1.out .i64 .i64 _ _ (xs.length + ys.length) rfl rfl (by omega) (by omega) (by rw [Hz2.out]; omega) (by unfold maxLen; omega) (Nat.le_refl _) ?_; intro w2 hown hg)
  have em := made_flat (cell := wc) (size := 1) (x0 := 0) (by decide) (Value.int .u32 0).cells rfl (xs.length + ys.length)
  rw [em] at hown
  clear em
  have hB : Below w.heap.size w w2 := (Below.refl _ _).grown hg (Nat.le_refl _) (by simp)
  clear hg
  go_loopw [19] (fun i wr => ∃ (k : Nat) (X : List Nat), k ≤ xs.length ∧ i = .int .i64 k ∧ Below w.heap.size w wr ∧ wr.ownsRow w.heap.size 181 1 (.slice (some ⟨w.heap.size, 0, none⟩) (xs.length + ys.length) (xs.length + ys.length)) (xs.length + ys.length) (flat 1 wc X) ∧ Hid (M.MulOut xs ys X k)) (fun i _ => xs.length - (intOf i).toNat)
  case atStart => exact ⟨0, _, Nat.zero_le _, rfl, hB, hown, Lib.hid (M.MulOut.start _ _)⟩
  case round =>
    clear hown hB
    obtain ⟨k, X, hk, rfl, hB, hown, HI⟩ := hrel
    by_cases hlt : k < xs.length
    · obtain ⟨ad, rfl, hab, da⟩ := ha.one_at hlt
      rw [← hB.cell hab] at da
      simp only [wc] at da
      obtain ⟨x, hx⟩ : ∃ x, xs[k] = x := ⟨_, rfl⟩
      have hx32 : x < 4294967296 := by rw [← hx]; exact HTA.out _ (List.getElem_mem _)
      rw [hx] at da
      have HX := Lib.hid hx
      clear hx
      go_wp2_with fail
      go_loopw [8, 26] (fun cc j wr => ∃ (l c : Nat) (X : List Nat), l ≤ ys.length ∧ j = .int .i64 l ∧ cc = .int .u64 (c : Int) ∧ c < 4294967296 ∧ Below w.heap.size w wr ∧ wr.ownsRow w.heap.size 181 1 (.slice (some ⟨w.heap.size, 0, none⟩) (xs.length + ys.length) (xs.length + ys.length)) (xs.length + ys.length) (flat 1 wc X) ∧ Hid (M.MulIn xs ys X k l c x)) (fun _ j _ => ys.length - (intOf j).toNat)
      case atStart => exact ⟨0, 0, X, Nat.zero_le _, rfl, rfl, by decide, hB, hown, Lib.hid (HI.out.in_ x)⟩
      case round =>
        clear hown hB HI da hab
        obtain ⟨l, c, X, hl, rfl, rfl, hc, hB, hown, HI⟩ := hrel
        by_cases hlt2 : l < ys.length
        · obtain ⟨ad2, rfl, hab, db⟩ := hb.one_at hlt2
          rw [← hB.cell hab] at db
          simp only [wc] at db
          obtain ⟨y, hy⟩ : ∃ y, ys[l] = y := ⟨_, rfl⟩
          have hy32 : y < 4294967296 := by rw [← hy]; exact HTB.out _ (List.getElem_mem _)
          rw [hy] at db
          have hq : k + l < X.length := by have := HI.out.len; omega
          obtain ⟨o, ho⟩ : ∃ o, X[k + l] = o := ⟨_, rfl⟩
          have ho32 : o < 4294967296 := by rw [← ho]; exact HI.out.lt _ (List.getElem_mem _)
          obtain ⟨f1, f2⟩ := own_at hown hq (j := 0) (by decide)
          rw [ho] at f1
          simp only [wc, Nat.mul_one, Nat.add_zero] at f1 f2
          have HN := Lib.hid (HI.out.step hlt2 hx32 hy hy32 hq ho)
          have HS := Lib.hid (own_set hown hq (j := 0) (y := (c + (x * y + o)) % 4294967296) (u := .int .u32 (((c + (x * y + o)) % 4294967296 : Nat) : Int)) (by decide) rfl (fun j' h1 h2 => absurd h1 (by omega)))
          have hbd := M.carry_bd hx32 hy32 ho32 hc
          have hp0 : (0 : Int) ≤ (x : Int) * (y : Int) := Int.mul_nonneg (by omega) (by omega)
          have hp1 : (x : Int) * (y : Int) + o + c < 18446744073709551616 := by
            have h := Int.ofNat_lt.2 hbd
            rw [Int.natCast_add, Int.natCast_add, Int.natCast_mul] at h
            exact h
          clear hbd ho hy hab
          go_wp2_with fail
          have ec : ((c : Int) + ((x : Int) * (y : Int) + (o : Int))) = ((c + (x * y + o) : Nat) : Int) := by
            rw [Int.natCast_add, Int.natCast_add, Int.natCast_mul]
          go_roundw
          case rel =>
            rw [ec]
            refine ⟨l + 1, (c + (x * y + o)) / 4294967296, _, hlt2, by go_num, by rw [Int.natCast_ediv]; rfl, HN.out.car, hB.setCell (p := ⟨w.heap.size, _, none⟩) (Nat.le_refl _) _, ?_, HN⟩
            have := HS.out
            simp only [Nat.mul_one, Nat.add_zero, Int.natCast_emod] at this
            exact this
          case measure => simp [intOf]; omega
        · obtain rfl : l = ys.length := by omega
          obtain ⟨hq, hout⟩ := HI.out.out hlt HX.out
          obtain ⟨f1, f2⟩ := own_at hown hq (j := 0) (by decide)
          have HS := Lib.hid (own_set hown hq (j := 0) (y := c) (u := .int .u32 (c : Int)) (by decide) rfl (fun j' h1 h2 => absurd h1 (by omega)))
          have HO := Lib.hid hout
          simp only [wc, Nat.mul_one, Nat.add_zero] at f1 f2
          obtain ⟨u, hu⟩ : ∃ u, X[k + ys.length] = u := ⟨_, rfl⟩
          rw [hu] at f1
          clear hu hout
          go_wp2_with fail
          go_roundw
          case rel =>
            refine ⟨k + 1, _, hlt, by go_num, hB.setCell (p := ⟨w.heap.size, _, none⟩) (Nat.le_refl _) _, ?_, HO⟩
            have := HS.out
            simp only [Nat.mul_one, Nat.add_zero] at this
            exact this
          case measure => simp [intOf]; omega
    · have hkl : k = xs.length := by omega
      have HF := Lib.hid (show M.trm X = M.wds (a * b) by
        have h := HI.out
        rw [hkl] at h
        rw [h.fin, HVA.out, HVB.out])
      have HL := Lib.hid HI.out.len
      clear hkl HI
      obtain ⟨A2, c2, hv, hS⟩ := own_slice (by decide) hown
      obtain ⟨rfl, rfl⟩ : some ⟨w.heap.size, 0, none⟩ = A2 ∧ xs.length + ys.length = c2 := by
        injection hv with h1 h2 h3; exact ⟨h1, h3⟩
      clear hv
      go_wp2_with fail
      have ht := trim_any (some ⟨w.heap.size, 0, none⟩) (xs.length + ys.length) _ X wr hS (by rw [HL.out]; exact Nat.le_refl _) (by omega)
      rw [HL.out] at ht
      refine ht.mono ?_
      rintro e w3 ⟨rfl, h2, rfl⟩
      rw [HF.out] at h2 ⊢
      have hlen : (M.wds (a * b)).length ≤ X.length := by
        rw [h2]; simp; omega
      have H2 := Lib.hid h2
      clear h2 ht
      go_wp2_with fail
      go_ret
      exact ⟨_, _, rfl, by have := HL.out; omega, by omega, by rw [H2.out]; exact hS.take _, hB⟩
end Go.Proofs.YtciolgmljpamlaaGreatDoor
/- The contracts of number.build and number.Of at numbers from 0 on. -/
namespace Go.Proofs.YtciolgmljpamlaaGreatDoor
open Go Go.RowKit
set_option maxRecDepth 100000
def IsInt (w : World) (base n : Nat) (v : Value) : Prop := ∃ A c, v = .agg #[.bool false, .slice A (M.byt n).length c] ∧ (∀ ad, A = some ad → base ≤ ad.block) ∧ Sl 1 bc w w.heap.size A (M.byt n)
def RetI (w : World) (n : Nat) (e : Ending) (w' : World) : Prop := ∃ v, e = .returned (.tuple #[v, .int .i64 0]) ∧ IsInt w' w.heap.size n v ∧ Below w.heap.size w w'
def RetI1 (w : World) (n : Nat) (e : Ending) (w' : World) : Prop := ∃ v, e = .returned v ∧ IsInt w' w.heap.size n v ∧ Below w.heap.size w w'
theorem IsInt.kept {w w' : World} {base n : Nat} {v : Value} (h : IsInt w base n v) (hb : Below w.heap.size w w') : IsInt w' base n v := by
  obtain ⟨A, c, rfl, hf, hS⟩ := h
  exact ⟨A, c, rfl, hf, (hS.below hb).more hb.size⟩
theorem M.pow_gen {n k : Nat} (h : n < 2 ^ (32 * k)) : n < 4294967296 ^ k := by rw [Nat.pow_mul] at h; exact h
theorem M.wds_bl {n k : Nat} (h : M.bl n ≤ 32 * k) : (M.wds n).length ≤ k := M.wds_len.2 (M.pow_gen (M.bl_le.1 h))
set_option maxHeartbeats 2000000 in
theorem build_ok (A : Option Addr) (c : Nat) (n : Nat) (w : World) (ha : Sl 1 wc w w.heap.size A (M.wds n)) (hn : M.bl n ≤ 512) :
    Calls Tryz.prog 214 #[.bool false, .slice A (M.wds n).length c] w (RetI w n) := by
  have hl : (M.wds n).length ≤ 16 := M.wds_bl (by omega)
  have hB0 := (Below.refl w.heap.size w).alloc (Nat.le_refl _) (.cells #[.bool false, .slice none 0 0] 220)
  have ha0 := ha.alloc (Nat.le_refl _) (.cells #[.bool false, .slice none 0 0] 220)
  go_enter Tryz.func214, Tryz.ntmps214
  go_wp2_with fail
  refine (size_any A c _ n _ ha0 (by omega)).mono ?_
  rintro e w1 ⟨rfl, rfl⟩
  generalize M.bl n = b at *
  go_wp2_with fail
  have s0 : w.heap.size < (w.alloc (.cells #[.bool false, .slice none 0 0] 220)).heap.size := by simp
  have k0 : (w.alloc (.cells #[.bool false, .slice none 0 0] 220)).heap[w.heap.size]? = some (.cells #[.bool false, .slice none 0 0] 220 (0, 0)) := heap_alloc_new w _
  generalize w.alloc (.cells #[.bool false, .slice none 0 0] 220) = W at *
  refine (digits_any A c n _ (ha0.more (by omega)) (by omega)).mono ?_
  rintro e w2 ⟨A2, c2, rfl, h1, h2, hfr, hS, hb2⟩
  have k1 := (hb2.block w.heap.size s0).trans k0
  have c0 : w2.cell? ⟨w.heap.size, 0, none⟩ = some (.bool false) := by rw [cell_of_row _ _ _ _ _ _ k1]; rfl
  have c1 : w2.cell? ⟨w.heap.size, 1, none⟩ = some (.slice none 0 0) := by rw [cell_of_row _ _ _ _ _ _ k1]; rfl
  have z0 : w2.frozen? ⟨w.heap.size, 0, none⟩ = false := frozen_of_row _ _ _ _ _ k1
  have z1 : w2.frozen? ⟨w.heap.size, 1, none⟩ = false := frozen_of_row _ _ _ _ _ k1
  have hbb := after_ hB0 hb2
  have hsz := hbb.size
  have hlt : w.heap.size < w2.heap.size := Nat.lt_of_lt_of_le s0 hb2.size
  clear k0 k1 ha0 hb2
  have hne : Hid (∀ ad, A2 = some ad → ad.block ≠ w.heap.size ∧ w.heap.size ≤ ad.block) := Lib.hid (fun ad h => by have := hfr ad h; omega)
  clear hfr
  go_wp2_with fail
  refine bodyPost_ret (v := .tuple #[.agg #[.bool false, .slice A2 (M.byt n).length c2], .int .i64 0]) ?_ rfl ?_
  · simp [results, Tryz.results214, go_sem, c0, c1]
  · refine ⟨_, rfl, ⟨A2, c2, rfl, fun ad h => (hne.out ad h).2, ?_⟩, (hbb.setCell (p := ⟨w.heap.size, 0, none⟩) (Nat.le_refl _) _).setCell (p := ⟨w.heap.size, 1, none⟩) (Nat.le_refl _) _⟩
    exact ((hS.setFar (p := ⟨w.heap.size, 0, none⟩) (fun ad h => (hne.out ad h).1) _).setFar (p := ⟨w.heap.size, 1, none⟩) (fun ad h => (hne.out ad h).1) _).more (by simp)
end Go.Proofs.YtciolgmljpamlaaGreatDoor
/- The contract of number.Of at numbers from 0 on. -/
namespace Go.Proofs.YtciolgmljpamlaaGreatDoor
open Go Go.RowKit
set_option maxRecDepth 100000
theorem M.trm_two {n : Nat} (h : n < 18446744073709551616) : M.trm [n % 4294967296, n / 4294967296] = M.wds n := by
  rw [M.trm_wds (by intro d hd; simp at hd; omega)]
  simp only [M.val]
  congr 1
  omega
set_option maxHeartbeats 2000000 in
theorem of_ok (n : Nat) (w : World) (hn : n ≤ 9223372036854775807) : Calls Tryz.prog 197 #[.int .i64 (n : Int)] w (RetI1 w n) := by
  have hB0 := (Below.refl w.heap.size w).alloc (Nat.le_refl _) (.cells #[.bool false, .slice none 0 0] 220)
  have s0 : Hid ((w.alloc (.cells #[.bool false, .slice none 0 0] 220)).heap.size = w.heap.size + 1) := Lib.hid (by simp)
  have k0 : Hid ((w.alloc (.cells #[.bool false, .slice none 0 0] 220)).heap[w.heap.size]? = some (.cells #[.bool false, .slice none 0 0] 220 (0, 0))) := Lib.hid (heap_alloc_new w _)
  have hneg : decide ((n : Int) < 0) = false := by simp
  go_enter Tryz.func197, Tryz.ntmps197
  go_wp2_with fail
  generalize w.alloc (.cells #[.bool false, .slice none 0 0] 220) = W at *
  have e1 : (n : Int) % 4294967296 = ((n % 4294967296 : Nat) : Int) := by rw [Int.natCast_emod]; rfl
  have e2 : (n : Int) / 4294967296 = ((n / 4294967296 : Nat) : Int) := by rw [Int.natCast_ediv]; rfl
  rw [e1, e2]
  clear e1 e2
  have hS0 : Sl 1 wc (W.alloc (.cells #[.int .u32 ((n % 4294967296 : Nat) : Int), .int .u32 ((n / 4294967296 : Nat) : Int)] 181)) (W.alloc (.cells #[.int .u32 ((n % 4294967296 : Nat) : Int), .int .u32 ((n / 4294967296 : Nat) : Int)] 181)).heap.size (some ⟨W.heap.size, 0, none⟩) [n % 4294967296, n / 4294967296] := Sl.of_new rfl
  have hB1 := hB0.alloc hB0.size (.cells #[.int .u32 ((n % 4294967296 : Nat) : Int), .int .u32 ((n / 4294967296 : Nat) : Int)] 181)
  have k1 : Hid ((W.alloc (.cells #[.int .u32 ((n % 4294967296 : Nat) : Int), .int .u32 ((n / 4294967296 : Nat) : Int)] 181)).heap[w.heap.size]? = some (.cells #[.bool false, .slice none 0 0] 220 (0, 0))) := Lib.hid ((Below.heap_alloc W _ _ (by have := s0.out; omega)).trans k0.out)
  have s1 : w.heap.size < (W.alloc (.cells #[.int .u32 ((n % 4294967296 : Nat) : Int), .int .u32 ((n / 4294967296 : Nat) : Int)] 181)).heap.size := by have := s0.out; simp; omega
  generalize W.alloc (.cells #[.int .u32 ((n % 4294967296 : Nat) : Int), .int .u32 ((n / 4294967296 : Nat) : Int)] 181) = V at *
  rw [s0.out] at hS0
  refine (trim_any (some ⟨w.heap.size + 1, 0, none⟩) 2 _ [n % 4294967296, n / 4294967296] V hS0 (by simp) (by omega)).mono ?_
  rintro e w1 ⟨rfl, h2, rfl⟩
  rw [M.trm_two (by omega)] at h2 ⊢
  have hSw : Sl 1 wc V V.heap.size (some ⟨w.heap.size + 1, 0, none⟩) (M.wds n) := by rw [h2]; exact hS0.take _
  clear h2 hS0
  have hbl : M.bl n ≤ 512 := by
    have : M.bl n ≤ 64 := M.bl_le.2 (by have : (9223372036854775807 : Nat) < 2 ^ 64 := by decide
                                        omega)
    omega
  go_wp2_with fail
  refine (build_ok _ 2 n V hSw hbl).mono ?_
  rintro e w2 ⟨v, rfl, ⟨A2, c2, rfl, hfr, hS2⟩, hb2⟩
  have hbb := after_ hB1 hb2
  have k2 := (hb2.block w.heap.size s1).trans k1.out
  have c0 : w2.cell? ⟨w.heap.size, 0, none⟩ = some (.bool false) := by rw [cell_of_row _ _ _ _ _ _ k2]; rfl
  have c1 : w2.cell? ⟨w.heap.size, 1, none⟩ = some (.slice none 0 0) := by rw [cell_of_row _ _ _ _ _ _ k2]; rfl
  have z0 : w2.frozen? ⟨w.heap.size, 0, none⟩ = false := frozen_of_row _ _ _ _ _ k2
  have z1 : w2.frozen? ⟨w.heap.size, 1, none⟩ = false := frozen_of_row _ _ _ _ _ k2
  have hlt : w.heap.size < w2.heap.size := Nat.lt_of_lt_of_le s1 hb2.size
  have hne : Hid (∀ ad, A2 = some ad → ad.block ≠ w.heap.size ∧ w.heap.size ≤ ad.block) := Lib.hid (fun ad h => by have := hfr ad h; omega)
  clear k2 hfr hb2 hSw hB1 hB0
  go_wp2_with fail
  have r0 : (((w2.setCell ⟨w.heap.size, 0, none⟩ (.bool false)).setCell ⟨w.heap.size, 1, none⟩ (.slice A2 (M.byt n).length c2)).alloc (.cells #[.bool false, .slice A2 (M.byt n).length c2] 220)).cell? ⟨w.heap.size, 0, none⟩ = some (.bool false) := by
    rw [World.cell?_alloc_lt _ _ _ (by simpa using hlt)]; simp [go_sem, c0]
  have r1 : (((w2.setCell ⟨w.heap.size, 0, none⟩ (.bool false)).setCell ⟨w.heap.size, 1, none⟩ (.slice A2 (M.byt n).length c2)).alloc (.cells #[.bool false, .slice A2 (M.byt n).length c2] 220)).cell? ⟨w.heap.size, 1, none⟩ = some (.slice A2 (M.byt n).length c2) := by
    rw [World.cell?_alloc_lt _ _ _ (by simpa using hlt)]; simp [go_sem, c1]
  have hfin := ((hbb.setCell (p := ⟨w.heap.size, 0, none⟩) (Nat.le_refl _) (.bool false)).setCell (p := ⟨w.heap.size, 1, none⟩) (Nat.le_refl _) (.slice A2 (M.byt n).length c2)).alloc (by simpa using hbb.size) (.cells #[.bool false, .slice A2 (M.byt n).length c2] 220)
  have hSf : Sl 1 bc (((w2.setCell ⟨w.heap.size, 0, none⟩ (.bool false)).setCell ⟨w.heap.size, 1, none⟩ (.slice A2 (M.byt n).length c2)).alloc (.cells #[.bool false, .slice A2 (M.byt n).length c2] 220)) (((w2.setCell ⟨w.heap.size, 0, none⟩ (.bool false)).setCell ⟨w.heap.size, 1, none⟩ (.slice A2 (M.byt n).length c2)).alloc (.cells #[.bool false, .slice A2 (M.byt n).length c2] 220)).heap.size A2 (M.byt n) :=
    ((((hS2.setFar (p := ⟨w.heap.size, 0, none⟩) (fun ad h => (hne.out ad h).1) (.bool false)).setFar (p := ⟨w.heap.size, 1, none⟩) (fun ad h => (hne.out ad h).1) (.slice A2 (M.byt n).length c2))).alloc (by simp) _).more (by simp)
  generalize ((w2.setCell ⟨w.heap.size, 0, none⟩ (.bool false)).setCell ⟨w.heap.size, 1, none⟩ (.slice A2 (M.byt n).length c2)).alloc (.cells #[.bool false, .slice A2 (M.byt n).length c2] 220) = F at *
  refine bodyPost_ret (v := .agg #[.bool false, .slice A2 (M.byt n).length c2]) ?_ rfl ?_
  · simp [results, Tryz.results197, go_sem, r0, r1]
  · exact ⟨_, rfl, ⟨A2, c2, rfl, fun ad h => (hne.out ad h).2, hSf⟩, hfin⟩
end Go.Proofs.YtciolgmljpamlaaGreatDoor
/- The contracts of number.Valid and number.Power at numbers from 0 on. -/
namespace Go.Proofs.YtciolgmljpamlaaGreatDoor
open Go Go.RowKit
set_option maxRecDepth 100000
theorem M.byt_head {n : Nat} (h : 0 < (M.byt n).length) : (M.byt n)[0] ≠ 0 := by
  have hc := M.dig_canon (b := 256) (by decide) n n (Nat.le_refl _)
  have hne : M.dig 256 n n ≠ [] := by
    intro he; simp [M.byt, he] at h
  have := hc hne
  rw [List.getLast_eq_getElem] at this
  have h2 : ∀ (h : 0 < (M.dig 256 n n).reverse.length), (M.dig 256 n n).reverse[0] ≠ 0 := fun h => by
    rw [List.getElem_reverse]; simpa using this
  exact h2 h
theorem M.byt_bd {n : Nat} (h : M.bl n ≤ 512) : (M.byt n).length ≤ 64 := by rw [M.byt_bl]; omega
set_option maxHeartbeats 2000000 in
theorem numValid_ok (n base : Nat) (v : Value) (w : World) (hv : IsInt w base n v) (hn : M.bl n ≤ 512) :
    Calls Tryz.prog 212 #[v] w fun e w' => e = .returned (.bool true) ∧ Below w.heap.size w w' := by
  obtain ⟨A, c, rfl, _, hS⟩ := hv
  have hl := M.byt_bd hn
  have hB0 := (Below.refl w.heap.size w).alloc (Nat.le_refl _) (.cells #[.bool false, .slice A (M.byt n).length c] 220)
  have hS0 := hS.alloc (Nat.le_refl _) (.cells #[.bool false, .slice A (M.byt n).length c] 220)
  cases hk : (M.byt n).length with
  | zero =>
    rw [hk] at hB0
    clear hS0 hS
    go_enter Tryz.func212, Tryz.ntmps212
    go_wp2_with fail
    go_ret
    exact ⟨rfl, hB0⟩
  | succ k =>
    have hd := M.byt_head (n := n) (by omega)
    obtain ⟨ad, rfl, _, d⟩ := hS0.one_at (k := 0) (by omega)
    simp only [bc, Addr.add, if_true] at d
    have hb : (((M.byt n)[0]'(by omega) : Nat) : Int) != 0 := by simp; exact hd
    generalize (M.byt n)[0]'(by omega) = x at *
    have hb' : ((x : Int) != 0) = true := hb
    rw [hk] at hB0 d hl
    clear hd hS hb hS0
    obtain ⟨m, hm⟩ : ∃ m, k + 1 = m := ⟨_, rfl⟩
    rw [hm] at hB0 d hl ⊢
    have hz : ((m : Int) == 0) = false := by simp; omega
    have hm0 : 0 < m := by omega
    have hq : decide ((m : Int) ≤ 64) = true := by simp; omega
    clear hm hk
    go_enter Tryz.func212, Tryz.ntmps212
    go_wp2_with fail
    go_ret
    exact ⟨rfl, hB0⟩
theorem M.wds_one : M.wds 1 = [1] := by decide +kernel
theorem M.bl_mono {a b : Nat} (h : a ≤ b) : M.bl a ≤ M.bl b := M.bl_le.2 (Nat.lt_of_le_of_lt h (M.bl_le.1 (Nat.le_refl _)))
set_option maxHeartbeats 4000000 in
theorem power_ok (n k base : Nat) (v : Value) (w : World) (hv : IsInt w base n v) (hn1 : 1 ≤ n) (hk1 : 1 ≤ k) (hk2 : k ≤ 1000) (hp : M.bl (n ^ k) ≤ 512) :
    Calls Tryz.prog 196 #[v, .int .i64 (k : Int)] w (RetI w (n ^ k)) := by
  have hnk : n ≤ n ^ k := by
    have : n ^ 1 ≤ n ^ k := Nat.pow_le_pow_right hn1 hk1
    simpa using this
  have hbn : M.bl n ≤ 512 := Nat.le_trans (M.bl_mono hnk) hp
  have hbyl := M.byt_bd hbn
  have hv0 := hv
  obtain ⟨A, c, rfl, _, hS⟩ := hv
  have hk0 : ((k : Int) == 0) = false := by simp; omega
  have hkn : decide ((k : Int) < 0) = false := by simp
  -- the box of the argument and the result's cell
  have hB0 := ((Below.refl w.heap.size w).alloc (Nat.le_refl _) (.cells #[.bool false, .slice A (M.byt n).length c] 220)).alloc (by simp) (.cells #[.bool false, .slice none 0 0] 220)
  have x0 : ((w.alloc (.cells #[.bool false, .slice A (M.byt n).length c] 220)).alloc (.cells #[.bool false, .slice none 0 0] 220)).heap[w.heap.size]? = some (.cells #[.bool false, .slice A (M.byt n).length c] 220 (0, 0)) := (Below.heap_alloc _ _ _ (by simp)).trans (heap_alloc_new w _)
  have x1 : ((w.alloc (.cells #[.bool false, .slice A (M.byt n).length c] 220)).alloc (.cells #[.bool false, .slice none 0 0] 220)).heap[w.heap.size + 1]? = some (.cells #[.bool false, .slice none 0 0] 220 (0, 0)) := by
    have := heap_alloc_new (w.alloc (.cells #[.bool false, .slice A (M.byt n).length c] 220)) (.cells #[.bool false, .slice none 0 0] 220)
    simpa using this
  have s0 : w.heap.size + 1 < ((w.alloc (.cells #[.bool false, .slice A (M.byt n).length c] 220)).alloc (.cells #[.bool false, .slice none 0 0] 220)).heap.size := by simp
  have hv1 := (hv0.kept ((Below.refl _ _).alloc (Nat.le_refl _) (.cells #[.bool false, .slice A (M.byt n).length c] 220))).kept ((Below.refl _ _).alloc (Nat.le_refl _) (.cells #[.bool false, .slice none 0 0] 220))
  have X0 := Lib.hid x0
  have X1 := Lib.hid x1
  clear x0 x1 hv0
  go_enter Tryz.func196, Tryz.ntmps196
  go_wp2_with fail
  generalize (w.alloc (.cells #[.bool false, .slice A (M.byt n).length c] 220)).alloc (.cells #[.bool false, .slice none 0 0] 220) = W at *
  refine (numValid_ok n base _ W hv1 hbn).mono ?_
  rintro e w1 ⟨rfl, hb1⟩
  have b1 := after_ hB0 hb1
  have y0 := (hb1.block w.heap.size (by omega)).trans X0.out
  have c0 : w1.cell? ⟨w.heap.size, 0, none⟩ = some (.bool false) := by rw [cell_of_row _ _ _ _ _ _ y0]; rfl
  have c1 : w1.cell? ⟨w.heap.size, 1, none⟩ = some (.slice A (M.byt n).length c) := by rw [cell_of_row _ _ _ _ _ _ y0]; rfl
  have Y1 := Lib.hid ((hb1.block (w.heap.size + 1) s0).trans X1.out)
  have s1 : w.heap.size + 1 < w1.heap.size := Nat.lt_of_lt_of_le s0 hb1.size
  have hS1 : Sl 1 bc w1 w1.heap.size A (M.byt n) := by
    obtain ⟨A', c', e, _, h⟩ := hv1.kept hb1
    have : A = A' := by simp at e; exact e.1
    subst this
    exact h
  clear y0 hB0 hv1 hb1 hS
  go_wp2_with fail
  refine (natOf_any A c (M.byt n) w1 hS1 (M.byt_lt n) hbyl).mono ?_
  rintro e w2 ⟨A2, c2, rfl, h1, h2, hS2, hb2⟩
  rw [M.byt_val] at h1 hS2 ⊢
  have b2 := after_ b1 hb2
  have d0 := (hb2.cell (p := ⟨w.heap.size, 0, none⟩) (by show w.heap.size < _; omega)).trans c0
  have Y2 := Lib.hid ((hb2.block (w.heap.size + 1) s1).trans Y1.out)
  have s2 : w.heap.size + 1 < w2.heap.size := Nat.lt_of_lt_of_le s1 hb2.size
  have hlw : (M.wds n).length ≤ 16 := M.wds_bl (by omega)
  clear c0 c1 hb2 b1 hS1
  go_wp2_with fail
  refine (size_any A2 c2 _ n _ hS2 (by omega)).mono ?_
  rintro e w3 ⟨rfl, rfl⟩
  by_cases hone : M.bl n ≤ 1
  · have hn : n = 1 := by
      have := M.bl_le.1 hone
      omega
    have HN := Lib.hid hn
    have hq : decide (((M.bl n : Nat) : Int) ≤ 1) = true := by simp; omega
    clear hn
    generalize M.bl n = b at *
    go_wp2_with fail
    refine (build_ok A2 c2 n w2 hS2 (by rw [HN.out]; decide +kernel)).mono ?_
    rintro e w4 ⟨v4, rfl, ⟨A4, c4, rfl, hfr4, hS4⟩, hb4⟩
    have b4 := after_ b2 hb4
    have Y3 := Lib.hid ((hb4.block (w.heap.size + 1) s2).trans Y2.out)
    have HNN : Hid (n ^ k = n) := Lib.hid (by rw [HN.out]; simp)
    have c0 : w4.cell? ⟨w.heap.size + 1, 0, none⟩ = some (.bool false) := by rw [cell_of_row _ _ _ _ _ _ Y3.out]; rfl
    have c1 : w4.cell? ⟨w.heap.size + 1, 1, none⟩ = some (.slice none 0 0) := by rw [cell_of_row _ _ _ _ _ _ Y3.out]; rfl
    have z0 : w4.frozen? ⟨w.heap.size + 1, 0, none⟩ = false := frozen_of_row _ _ _ _ _ Y3.out
    have z1 : w4.frozen? ⟨w.heap.size + 1, 1, none⟩ = false := frozen_of_row _ _ _ _ _ Y3.out
    have hne : Hid (∀ ad, A4 = some ad → ad.block ≠ w.heap.size + 1 ∧ w.heap.size ≤ ad.block) := Lib.hid (fun ad h => by have := hfr4 ad h; omega)
    clear hfr4
    go_wp2_with fail
    refine bodyPost_ret (v := .tuple #[.agg #[.bool false, .slice A4 (M.byt n).length c4], .int .i64 0]) ?_ rfl ?_
    · simp [results, Tryz.results196, go_sem, c0, c1]
    · rw [HNN.out]
      refine ⟨_, rfl, ⟨A4, c4, rfl, fun ad h => (hne.out ad h).2, ?_⟩, (b4.setCell (p := ⟨w.heap.size + 1, 0, none⟩) (by simp) _).setCell (p := ⟨w.heap.size + 1, 1, none⟩) (by simp) _⟩
      exact ((hS4.setFar (p := ⟨w.heap.size + 1, 0, none⟩) (fun ad h => (hne.out ad h).1) _).setFar (p := ⟨w.heap.size + 1, 1, none⟩) (fun ad h => (hne.out ad h).1) _).more (by simp)
  · have hq : decide (((M.bl n : Nat) : Int) ≤ 1) = false := by simp; omega
    have hn2 : 1 < n := by
      apply Nat.lt_of_not_le; intro h
      exact hone (M.bl_le.2 (by omega))
    clear hone
    generalize M.bl n = b at *
    go_wp2_with fail
    have hSp : Sl 1 wc (w2.alloc (.cells #[.int .u32 1] 181)) (w2.alloc (.cells #[.int .u32 1] 181)).heap.size (some ⟨w2.heap.size, 0, none⟩) (M.wds (n ^ 0)) := Sl.of_new (by rw [Nat.pow_zero, M.wds_one]; rfl)
    have b3 := b2.alloc b2.size (.cells #[.int .u32 1] 181)
    have Y3 := Lib.hid ((Below.heap_alloc w2 (.cells #[.int .u32 1] 181) _ s2).trans Y2.out)
    have hS3 := (hS2.alloc (Nat.le_refl _) (.cells #[.int .u32 1] 181)).more (B' := (w2.alloc (.cells #[.int .u32 1] 181)).heap.size) (by simp)
    have s3 : w.heap.size + 1 < (w2.alloc (.cells #[.int .u32 1] 181)).heap.size := by simp; omega
    have hl0 : (M.wds (n ^ 0)).length = 1 := by rw [Nat.pow_zero]; decide +kernel
    have HL0 := Lib.hid hl0
    clear hl0 hS2 b2
    generalize w2.alloc (.cells #[.int .u32 1] 181) = V at *
    generalize w2.heap.size = q at *
    go_loopw [8, 43] (fun x i wr => ∃ (j : Nat) (A' : Option Addr) (c' : Nat), j ≤ k ∧ i = .int .i64 j ∧ x = .slice A' (M.wds (n ^ j)).length c' ∧ Sl 1 wc wr wr.heap.size A' (M.wds (n ^ j)) ∧ Below V.heap.size V wr) (fun _ i _ => k - (intOf i).toNat)
    case atStart => exact ⟨0, some ⟨q, 0, none⟩, 1, Nat.zero_le _, rfl, by rw [HL0.out], hSp, Below.refl _ _⟩
    case round =>
      obtain ⟨j, A', c', hj, rfl, rfl, hSj, hbj⟩ := hrel
      have hpj : ∀ i, i ≤ k → M.bl (n ^ i) ≤ 512 := fun i hi => Nat.le_trans (M.bl_mono (Nat.pow_le_pow_right (by omega) hi)) hp
      have hlj : (M.wds (n ^ j)).length ≤ 16 := M.wds_bl (by have := hpj j hj; omega)
      by_cases hlt : j < k
      · have hp1 := hpj (j + 1) hlt
        have hl1 : (M.wds (n ^ (j + 1))).length ≤ 16 := M.wds_bl (by omega)
        clear hpj
        go_wp2_with fail
        refine (mulNat_any A' A2 c' c2 (n ^ j) n wr hSj ((hS3.below hbj).more hbj.size) (by omega) (by omega)).mono ?_
        rintro e w5 ⟨A5, c5, rfl, h5, h6, hS5, hb5⟩
        rw [← Nat.pow_succ] at h5 hS5 ⊢
        have hb6 := after_ hbj hb5
        go_wp2_with fail
        refine (size_any A5 c5 _ (n ^ (j + 1)) _ hS5 (by omega)).mono ?_
        rintro e w6 ⟨rfl, rfl⟩
        have hq5 : decide (512 < ((M.bl (n ^ (j + 1)) : Nat) : Int)) = false := by simp; omega
        go_wp2_with fail
        go_roundw
        case rel => exact ⟨j + 1, A5, c5, hlt, by go_num, rfl, hS5, hb6⟩
        case measure => simp [intOf]; omega
      · obtain rfl : j = k := by omega
        clear hpj
        go_wp2_with fail
        refine (build_ok A' c' (n ^ j) wr hSj hp).mono ?_
        rintro e w4 ⟨v4, rfl, ⟨A4, c4, rfl, hfr4, hS4⟩, hb4⟩
        have b4 := after_ b3 (after_ hbj hb4)
        have Y4 := Lib.hid (((after_ hbj hb4).block (w.heap.size + 1) s3).trans Y3.out)
        have hsr := hbj.size
        have c0 : w4.cell? ⟨w.heap.size + 1, 0, none⟩ = some (.bool false) := by rw [cell_of_row _ _ _ _ _ _ Y4.out]; rfl
        have c1 : w4.cell? ⟨w.heap.size + 1, 1, none⟩ = some (.slice none 0 0) := by rw [cell_of_row _ _ _ _ _ _ Y4.out]; rfl
        have z0 : w4.frozen? ⟨w.heap.size + 1, 0, none⟩ = false := frozen_of_row _ _ _ _ _ Y4.out
        have z1 : w4.frozen? ⟨w.heap.size + 1, 1, none⟩ = false := frozen_of_row _ _ _ _ _ Y4.out
        have hne : Hid (∀ ad, A4 = some ad → ad.block ≠ w.heap.size + 1 ∧ w.heap.size ≤ ad.block) := Lib.hid (fun ad h => by have := hfr4 ad h; omega)
        clear hfr4
        go_wp2_with fail
        refine bodyPost_ret (v := .tuple #[.agg #[.bool false, .slice A4 (M.byt (n ^ j)).length c4], .int .i64 0]) ?_ rfl ?_
        · simp [results, Tryz.results196, go_sem, c0, c1]
        · refine ⟨_, rfl, ⟨A4, c4, rfl, fun ad h => (hne.out ad h).2, ?_⟩, (b4.setCell (p := ⟨w.heap.size + 1, 0, none⟩) (by simp) _).setCell (p := ⟨w.heap.size + 1, 1, none⟩) (by simp) _⟩
          exact ((hS4.setFar (p := ⟨w.heap.size + 1, 0, none⟩) (fun ad h => (hne.out ad h).1) _).setFar (p := ⟨w.heap.size + 1, 1, none⟩) (fun ad h => (hne.out ad h).1) _).more (by simp)
end Go.Proofs.YtciolgmljpamlaaGreatDoor
/- The contract of number.divSmall. -/
namespace Go.Proofs.YtciolgmljpamlaaGreatDoor
open Go Go.RowKit
set_option maxRecDepth 100000
def RetDiv (w : World) (n d : Nat) (e : Ending) (w' : World) : Prop := ∃ A c, e = .returned (.tuple #[.slice A (M.wds (n / d)).length c, .int .u32 ((n % d : Nat) : Int)]) ∧ (∀ ad, A = some ad → w.heap.size ≤ ad.block) ∧ Sl 1 wc w' w'.heap.size A (M.wds (n / d)) ∧ Below w.heap.size w w'
theorem or_shl64 {r y : Nat} (hr : r < 4294967296) (hy : y < 4294967296) : bits BinOp.or IntKind.u64 ((r * 4294967296 : Nat) : Int) (y : Int) = ((r * 4294967296 + y : Nat) : Int) := by
  rw [u64_or_nat _ _ (by omega) (by omega), nat_join 32 _ _ (by omega) (by omega)]
set_option maxHeartbeats 2000000 in
theorem divSmall_any (A : Option Addr) (c : Nat) (n d : Nat) (w : World) (ha : Sl 1 wc w w.heap.size A (M.wds n)) (hl : (M.wds n).length ≤ 100) (hd0 : 1 ≤ d) (hd : d < 4294967296) :
    Calls Tryz.prog 227 #[.slice A (M.wds n).length c, .int .u32 (d : Int)] w (RetDiv w n d) := by
  have hv := M.wds_val n
  have ht := M.wds_lt n
  generalize M.wds n = xs at *
  have HV := Lib.hid hv
  have HT := Lib.hid ht
  clear hv ht
  obtain ⟨i0, hi, hz0, hz1, hz2⟩ := info_parts u32Info
  have Hi := Lib.hid hi; have Hz0 := Lib.hid hz0; have Hz1 := Lib.hid hz1; have Hz2 := Lib.hid hz2
  clear hi hz0 hz1 hz2
  go_enter Tryz.func227, Tryz.ntmps227
  go_wp2_with (at_make; refine wpList_make_full _ rfl _ _ 237 rfl w.heap.size 181 i0 _ 1 Tryz.underlying237 Hi.out Hz0.out Hz1.out .i64 .i64 _ _ xs.length rfl rfl rfl rfl (by rw [Hz2.out]; omega) (by unfold maxLen; omega) (Nat.le_refl _) ?_; intro w2 hown hg)
  have em := made_flat (cell := wc) (size := 1) (x0 := 0) (by decide) (Value.int .u32 0).cells rfl xs.length
  rw [em] at hown
  clear em
  have hB : Below w.heap.size w w2 := (Below.refl _ _).grown hg (Nat.le_refl _) (by simp)
  clear hg
  go_loopw [7, 8] (fun rr i wr => ∃ (k r : Nat) (q : List Nat), k ≤ xs.length ∧ i = .int .i64 ((k : Int) - 1) ∧ rr = .int .u64 (r : Int) ∧ r < d ∧ Below w.heap.size w wr ∧ wr.ownsRow w.heap.size 181 1 (.slice (some ⟨w.heap.size, 0, none⟩) xs.length xs.length) xs.length (flat 1 wc q) ∧ Hid (M.DivInv xs q d k r)) (fun _ i _ => (intOf i + 1).toNat)
  case atStart => exact ⟨xs.length, 0, _, Nat.le_refl _, rfl, rfl, by omega, hB, hown, Lib.hid (M.DivInv.start _ (by omega))⟩
  case round =>
    clear hown hB
    obtain ⟨k, r, q, hk, rfl, rfl, hr, hB, hown, HI⟩ := hrel
    cases k with
    | zero =>
      obtain ⟨hf1, hf2⟩ := HI.out.fin HV.out
      have HF := Lib.hid hf1
      have HR := Lib.hid hf2
      have HL := Lib.hid HI.out.len
      clear hf1 hf2 HI
      obtain ⟨A2, c2, hv, hS⟩ := own_slice (by decide) hown
      obtain ⟨rfl, rfl⟩ : some ⟨w.heap.size, 0, none⟩ = A2 ∧ xs.length = c2 := by
        injection hv with h1 h2 h3; exact ⟨h1, h3⟩
      clear hv
      go_wp2_with fail
      have ht := trim_any (some ⟨w.heap.size, 0, none⟩) xs.length _ q wr hS (by rw [HL.out]; exact Nat.le_refl _) (by omega)
      rw [HL.out] at ht
      refine ht.mono ?_
      rintro e w3 ⟨rfl, h2, rfl⟩
      rw [HF.out] at h2 ⊢
      have H2 := Lib.hid h2
      clear h2 ht
      go_wp2_with fail
      go_ret2
      exact ⟨_, _, by rw [HR.out]; rfl, (fun ad h => by cases h; exact Nat.le_refl _), by rw [H2.out]; exact hS.take _, hB⟩
    | succ k =>
      obtain ⟨ad, rfl, hab, da⟩ := ha.one_at (k := k) (by omega)
      rw [← hB.cell hab] at da
      simp only [wc] at da
      obtain ⟨y, hy⟩ : ∃ y, xs[k] = y := ⟨_, rfl⟩
      have hy32 : y < 4294967296 := by rw [← hy]; exact HT.out _ (List.getElem_mem _)
      rw [hy] at da
      obtain ⟨hq32, hstep⟩ := HI.out.step (by omega) hy hy32 hd
      have hkq : k < q.length := by have := HI.out.len; omega
      obtain ⟨f1, f2⟩ := own_at hown hkq (j := 0) (by decide)
      obtain ⟨u, hu⟩ : ∃ u, q[k] = u := ⟨_, rfl⟩
      rw [hu] at f1
      simp only [wc, Nat.mul_one, Nat.add_zero] at f1 f2
      have HS := Lib.hid (own_set hown hkq (j := 0) (y := (r * 4294967296 + y) / d) (u := .int .u32 (((r * 4294967296 + y) / d : Nat) : Int)) (by decide) rfl (fun j' h1 h2 => absurd h1 (by omega)))
      have HN := Lib.hid hstep
      have hor := or_shl64 (r := r) (y := y) (by omega) hy32
      rw [Int.natCast_mul] at hor
      obtain ⟨R, hR⟩ : ∃ R, r * 4294967296 + y = R := ⟨_, rfl⟩
      have hRb : R < 18446744073709551616 := by omega
      rw [hR] at hor hq32 HS HN
      have hor2 : bits BinOp.or IntKind.u64 ((r : Int) * 4294967296) (y : Int) = (R : Int) := hor
      have hqn : (0 : Int) ≤ (R : Int) / (d : Int) := Int.ediv_nonneg (by omega) (by omega)
      have hqb : (R : Int) / (d : Int) < 4294967296 := by
        have h := Int.ofNat_lt.2 hq32
        rw [Int.natCast_ediv] at h
        exact h
      clear hy hu hab hstep hor hR
      go_wp2_with fail
      have er : (R : Int) % (d : Int) = ((R % d : Nat) : Int) := by rw [Int.natCast_emod]
      go_roundw
      case rel =>
        refine ⟨k, R % d, _, by omega, rfl, by rw [← er], HN.out.rem, hB.setCell (p := ⟨w.heap.size, _, none⟩) (Nat.le_refl _) _, ?_, HN⟩
        have := HS.out
        simp only [Nat.mul_one, Nat.add_zero, Int.natCast_ediv] at this
        exact this
      case measure => simp [intOf]
end Go.Proofs.YtciolgmljpamlaaGreatDoor
/- The contract of slices.Reverse at bytes: it writes its own row alone. -/
namespace Go.Proofs.YtciolgmljpamlaaGreatDoor
open Go Go.RowKit
set_option maxRecDepth 100000
def RevPost (w : World) (base : Nat) (e : Ending) (w' : World) : Prop := e = .returned (.tuple #[]) ∧ Below base w w'
set_option maxHeartbeats 4000000 in
theorem reverse_ok (g m cap base : Nat) (l : List Nat) (w : World) (hown : w.ownsRow base 5 1 (.slice (some ⟨g, 0, none⟩) m cap) m (flat 1 bc l)) (hm : m ≤ 10000) :
    Calls Tryz.prog 228 #[.slice (some ⟨g, 0, none⟩) m cap] w (RevPost w base) := by
  have hbg := (own_lt hown).1
  go_enter Tryz.func228, Tryz.ntmps228
  go_wp2_with fail
  go_loopw [2, 3] (fun i j wr => ∃ (a b : Int) (l' : List Nat), 0 ≤ a ∧ a ≤ m ∧ -1 ≤ b ∧ b < m ∧ i = .int .i64 a ∧ j = .int .i64 b ∧ Below base w wr ∧ wr.ownsRow base 5 1 (.slice (some ⟨g, 0, none⟩) m cap) m (flat 1 bc l') ∧ Hid (l'.length = m)) (fun i j _ => (intOf j - intOf i).toNat)
  case atStart => 
    refine ⟨0, (m : Int) - 1, l, by omega, by omega, by omega, by omega, rfl, rfl, Below.refl _ _, hown, Lib.hid ?_⟩
    have := hown.1; rw [flat_length] at this; omega
  case round =>
    clear hown
    obtain ⟨a, b, l', ha, ham, hb, hbm, rfl, rfl, hB, hown, HL⟩ := hrel
    by_cases hlt : a < b
    · obtain ⟨i, rfl⟩ := Int.eq_ofNat_of_zero_le ha
      obtain ⟨j, rfl⟩ := Int.eq_ofNat_of_zero_le (show 0 ≤ b by omega)
      have hij : i < j := by omega
      have hjm : j < m := by omega
      have hi' : i < l'.length := by have := HL.out; omega
      have hj' : j < l'.length := by have := HL.out; omega
      obtain ⟨f1, f2⟩ := own_at hown hi' (j := 0) (by decide)
      obtain ⟨f3, f4⟩ := own_at hown hj' (j := 0) (by decide)
      have HS := Lib.hid (own_set (own_set hown hi' (j := 0) (y := l'[j]) (u := bc l'[j] 0) (by decide) rfl (fun j' h1 h2 => absurd h1 (by omega))) (k := j) (by rw [List.length_set]; exact hj') (j := 0) (y := l'[i]) (u := bc l'[i] 0) (by decide) rfl (fun j' h1 h2 => absurd h1 (by omega)))
      simp only [bc, Nat.mul_one, Nat.add_zero] at f1 f2 f3 f4
      have n1 : ¬ i = j := by omega
      have n2 : ¬ j = i := by omega
      obtain ⟨x, hx⟩ : ∃ x, l'[i] = x := ⟨_, rfl⟩
      obtain ⟨y, hy⟩ : ∃ y, l'[j] = y := ⟨_, rfl⟩
      rw [hx] at f1
      rw [hy] at f3
      have HX := Lib.hid hx
      have HY := Lib.hid hy
      clear hx hy
      go_wp2_with fail
      go_region
      go_wp2_with fail
      go_roundw
      case rel =>
        refine ⟨(i : Int) + 1, (j : Int) - 1, (l'.set i y).set j x, by omega, by omega, by omega, by omega, rfl, rfl, ((hB.setCell (p := ⟨g, i, none⟩) hbg _).setCell (p := ⟨g, j, none⟩) hbg _).drew, ?_, Lib.hid (by rw [List.length_set, List.length_set]; exact HL.out)⟩
        have := HS.out
        simp only [bc, HX.out, HY.out, Nat.mul_one, Nat.add_zero] at this
        exact this
      case measure => simp [intOf]; omega
    · go_wp2_with fail
      go_end0
      exact ⟨rfl, hB⟩
end Go.Proofs.YtciolgmljpamlaaGreatDoor
/- The contracts of number.decimal (its length) and number.Digits10. -/
namespace Go.Proofs.YtciolgmljpamlaaGreatDoor
open Go Go.RowKit
set_option maxRecDepth 100000
def dc (x : Nat) (_ : Nat) : Value := .int .u8 (48 + (x : Int))
theorem d_one (x j : Nat) : (dc x j).oneCell' = true := rfl
theorem flat_dc (l : List Nat) : flat 1 dc l = flat 1 bc (l.map (48 + ·)) := by
  unfold flat; rw [List.flatMap_map]; congr 1
def RetLen (w : World) (k : Nat) (e : Ending) (w' : World) : Prop := ∃ A c, e = .returned (.slice A k c) ∧ Below w.heap.size w w'
theorem M.nd_bl {n k : Nat} (h : M.bl n ≤ k) : M.nd n ≤ k := M.nd_le.2 (Nat.lt_of_lt_of_le (M.bl_le.1 h) (Nat.pow_le_pow_left (by decide) k))
theorem own_take {α : Type} {size : Nat} {cell : α → Nat → Value} {w : World} {base : Nat} {e : TypeId} {g n cap k : Nat} {xs : List α} (hs : 0 < size) (h : w.ownsRow base e size (.slice (some ⟨g, 0, none⟩) n cap) n (flat size cell xs)) (hk : k ≤ n) :
    w.ownsRow base e size (.slice (some ⟨g, 0, none⟩) k cap) k (flat size cell (xs.take k)) := by
  have hn : n * size = xs.length * size := by rw [← h.1, flat_length]
  have hnl : n = xs.length := Nat.eq_of_mul_eq_mul_right hs hn
  rcases h.2 with ⟨h', _⟩ | ⟨g', cap', cur, h', hb, hg, hnc, hcm, hcs, htake⟩
  · simp at h'
  · simp only [Value.slice.injEq, Option.some.injEq, Addr.mk.injEq, and_true, true_and] at h'
    obtain ⟨rfl, rfl⟩ := h'
    refine ⟨by rw [flat_length, List.length_take]; congr 1; omega, .inr ⟨g, cap, cur, rfl, hb, hg, by omega, hcm, hcs, ?_⟩⟩
    have e1 : flat size cell xs = flat size cell (xs.take k) ++ flat size cell (xs.drop k) := by rw [← flat_append, List.take_append_drop]
    have e2 : (flat size cell (xs.take k)).length = k * size := by rw [flat_length, List.length_take]; congr 1; omega
    have : cur.toList.take (k * size) = (cur.toList.take (n * size)).take (k * size) := by
      rw [List.take_take, Nat.min_eq_left (Nat.mul_le_mul_right _ hk)]
    rw [this, htake, e1, List.take_append_of_le_length (by rw [e2]; exact Nat.le_refl _), List.take_of_length_le (by rw [e2]; exact Nat.le_refl _)]
set_option maxHeartbeats 4000000 in
theorem decimal_ok (A : Option Addr) (c : Nat) (n : Nat) (w : World) (ha : Sl 1 wc w w.heap.size A (M.wds n)) (hn : M.bl n ≤ 512) (hn0 : n ≠ 0) :
    Calls Tryz.prog 218 #[.slice A (M.wds n).length c] w (RetLen w (M.nd n)) := by
  have hl : (M.wds n).length ≤ 16 := M.wds_bl (by omega)
  have hl0 : 0 < (M.wds n).length := by
    apply Nat.pos_of_ne_zero; intro h
    have := M.wds_val n
    rw [List.eq_nil_of_length_eq_zero h] at this
    exact hn0 this.symm
  have hnd : M.nd n ≤ 512 := M.nd_bl hn
  obtain ⟨i0, hi, hz0, hz1, hz2⟩ := info_parts u8Info
  have Hi := Lib.hid hi; have Hz0 := Lib.hid hz0; have Hz1 := Lib.hid hz1; have Hz2 := Lib.hid hz2
  clear hi hz0 hz1 hz2
  have hz : (((M.wds n).length : Int) == 0) = false := by simp; intro h; rw [h] at hl0; simp at hl0
  go_enter Tryz.func218, Tryz.ntmps218
  go_wp2_with fail
  go_loopw [0, 3] (fun x out wr => ∃ (X : Nat) (ds : List Nat) (A' : Option Addr) (c' : Nat), x = .slice A' (M.wds X).length c' ∧ ds.length ≤ 600 ∧ M.bl X ≤ 512 ∧ Sl 1 wc wr wr.heap.size A' (M.wds X) ∧ Below w.heap.size w wr ∧ wr.ownsRow w.heap.size 5 1 out ds.length (flat 1 dc ds) ∧ Hid (M.DecInv n X ds)) (fun _ out _ => match out with | .slice _ k _ => M.nd n - k | _ => 0)
  case atStart => exact ⟨n, [], A, c, rfl, by simp, hn, ha, Below.refl _ _, own_nil _ _ _ _ _, Lib.hid ⟨fun d hd => by simp at hd, by simp [M.val]⟩⟩
  case round =>
    clear ha hl hl0 hz
    obtain ⟨X, ds, A', c', rfl, hds, hX, hS, hB, hown, HI⟩ := hrel
    by_cases hX0 : X = 0
    · have hv0 := HI.out.val_
      rw [hX0, Nat.mul_zero, Nat.add_zero] at hv0
      have hT := M.dec_eq HI.out.lt hv0
      have HE : Hid ((M.trm ds).length = M.nd n) := Lib.hid (by rw [hT]; rfl)
      have hne : M.trm ds ≠ [] := by
        intro h
        have h2 := M.trm_val 10 ds
        rw [h, hv0] at h2
        exact hn0 h2.symm
      have HNE := Lib.hid hne
      have HLT := Lib.hid HI.out.lt
      have hw0 : M.wds X = [] := by rw [hX0]; decide +kernel
      have hl0 : (M.wds X).length = 0 := by rw [hw0]; rfl
      have HW := Lib.hid hl0
      rw [hl0]
      clear hv0 hT hne hw0 hl0 hX0 HI hS
      obtain ⟨Ao, co, rfl, hSo⟩ := own_slice (by decide) hown
      have hpos : 0 < ds.length := by
        apply Nat.pos_of_ne_zero; intro h
        exact HNE.out (by rw [List.eq_nil_of_length_eq_zero h]; rfl)
      obtain ⟨g, cap, hv, hbg, hgl⟩ := hown.form hpos
      obtain ⟨rfl, rfl⟩ : Ao = some ⟨g, 0, none⟩ ∧ co = cap := by injection hv with h1 h2 h3; exact ⟨h1, h3⟩
      clear hv
      go_wp2_with fail
      go_loop [3] (fun x => ∃ k : Nat, 1 ≤ k ∧ k ≤ ds.length ∧ x = .slice (some ⟨g, 0, none⟩) k co ∧ Hid (M.trm (ds.take k) = M.trm ds)) (fun x => match x with | .slice _ k _ => k | _ => 0)
      case atStart => exact ⟨ds.length, hpos, Nat.le_refl _, rfl, Lib.hid (by rw [List.take_length])⟩
      case round =>
        obtain ⟨k, hk1, hk, rfl, HT⟩ := hrel
        obtain ⟨k, rfl⟩ : ∃ j, k = j + 1 := ⟨k - 1, by omega⟩
        obtain ⟨f1, _⟩ := own_at hown (k := k) (by omega) (j := 0) (by decide)
        have hcap : ds.length ≤ co := by
          rcases hown.2 with ⟨h', _⟩ | ⟨g', cap', cur, h', _, _, hnc, _⟩
          · cases h'
          · injection h' with _ _ h3; omega
        simp only [dc, Nat.mul_one, Nat.add_zero] at f1
        by_cases h0 : ds[k] = 0
        · have hT2 := M.trm_at (by omega) HT.out h0
          have hk0 : k ≠ 0 := by
            intro hk0
            rw [hk0] at hT2
            exact HNE.out (by rw [← hT2]; rfl)
          have HT2 := Lib.hid hT2
          rw [h0] at f1
          clear hT2 h0
          go_wp2_with fail
          go_round
          case rel => exact ⟨k, by omega, by omega, rfl, HT2⟩
          case measure => simp
        · have hstop := M.trm_stop (by omega) HT.out h0
          have HK : Hid (k + 1 = M.nd n) := Lib.hid (by rw [← HE.out, hstop]; simp; omega)
          have hx10 := HLT.out ds[k] (List.getElem_mem _)
          generalize ds[k] = x at *
          have hb : ((48 : Int) + (x : Int) == 48) = false := by simp; omega
          clear h0 hstop
          have hown5 := own_take (k := k + 1) (by decide) hown hk
          rw [flat_dc] at hown5
          go_wp2_with fail
          refine (reverse_ok g (k + 1) co w.heap.size _ wr hown5 (by omega)).mono ?_
          rintro e w6 ⟨rfl, hb6⟩
          go_wp2_with fail
          go_ret
          exact ⟨_, _, by rw [← HK.out]; rfl, hB.trans hb6⟩
    · have hmore := HI.out.more hX0
      have hlX : (M.wds X).length ≤ 16 := M.wds_bl (by omega)
      have hlX0 : 0 < (M.wds X).length := by
        apply Nat.pos_of_ne_zero; intro h
        have := M.wds_val X
        rw [List.eq_nil_of_length_eq_zero h] at this
        exact hX0 this.symm
      obtain ⟨Ao, co, rfl, _⟩ := own_slice (by decide) hown
      go_wp2_with fail
      refine (divSmall_any A' c' X 1000000000 wr hS (by omega) (by omega) (by omega)).mono ?_
      rintro e w2 ⟨A2, c2, rfl, hfr, hS2, hb2⟩
      have hB2 := after_ hB hb2
      have hown2 := own_below hown hb2
      have hX2 : M.bl (X / 1000000000) ≤ 512 := Nat.le_trans (M.bl_mono (Nat.div_le_self _ _)) hX
      have HD := Lib.hid HI.out.in_
      obtain ⟨r, hr⟩ : ∃ r, X % 1000000000 = r := ⟨_, rfl⟩
      have hrb : r < 1000000000 := by omega
      rw [hr] at HD ⊢
      obtain ⟨q, hq⟩ : ∃ q, X / 1000000000 = q := ⟨_, rfl⟩
      rw [hq] at HD hX2 hS2 ⊢
      have hdist : Hid (∀ ad, A2 = some ad → 0 < (M.wds q).length → (Value.slice Ao ds.length co).ownBlock ≠ some ad.block) := Lib.hid (fun ad h _ he => by
        have h1 := hfr ad h
        have h2 := (hown.lt _ he).2
        omega)
      clear hr hq hown hS hb2 hlX0 hlX hfr
      go_wp2_with fail
      go_loopw [3, 4, 17] (fun out rr i wr => ∃ (j r : Nat) (ds' : List Nat), j ≤ 9 ∧ i = .int .i64 j ∧ rr = .int .u32 (r : Int) ∧ r < 1000000000 ∧ Below w.heap.size w wr ∧ wr.ownsRow w.heap.size 5 1 out ds'.length (flat 1 dc ds') ∧ Sl 1 wc wr wr.heap.size A2 (M.wds q) ∧ Hid (ds'.length = ds.length + j) ∧ Hid (M.DecIn n q ds' j r) ∧ Hid (∀ ad, A2 = some ad → 0 < (M.wds q).length → out.ownBlock ≠ some ad.block)) (fun _ _ i _ => 9 - (intOf i).toNat)
      case atStart => exact ⟨0, r, ds, by omega, rfl, rfl, hrb, hB2, hown2, hS2, Lib.hid rfl, HD, hdist⟩
      case round =>
        clear hown2 HD hrb hdist hS2 hB2 hB
        obtain ⟨j, r, ds', hj, rfl, rfl, hrb, hB, hown3, hS2, HL, HD, HX⟩ := hrel
        by_cases hlt : j < 9
        · have HN := Lib.hid (HD.out.step hlt)
          have hlen : ds'.length ≤ 700 := by have := HL.out; omega
          have er : (r : Int) % 10 = ((r % 10 : Nat) : Int) := by rw [Int.natCast_emod]; rfl
          obtain ⟨y, hy⟩ : ∃ y, r % 10 = y := ⟨_, rfl⟩
          have hy10 : y < 10 := by omega
          rw [hy] at er HN
          clear hy
          obtain ⟨z, hz⟩ : ∃ z, r / 10 = z := ⟨_, rfl⟩
          have hzb : z < 1000000000 := by omega
          have ez : (r : Int) / 10 = (z : Int) := by rw [← hz, Int.natCast_ediv]; rfl
          rw [hz] at HN
          clear hz
          go_wp2_with (at_builtin; refine wpList_push2 (w0 := w) (cell := dc) (y := y) rfl _ _ _ rfl w.heap.size w.heap.size 5 i0 _ 1 Tryz.underlying218 Hi.out Hz0.out Hz1.out Hz2.out rfl (by decide) _ ds'.length _ rfl hown3 _ _ rfl _ rfl (d_one _) (by unfold maxLen; omega) (by omega) hB.size (Nat.le_refl _) hB ?_; intro v' w' hown' hb' hg' hat')
          have hS3 := hS2.grownFar hg' HX.out
          have HX' : Hid (∀ ad, A2 = some ad → 0 < (M.wds q).length → v'.ownBlock ≠ some ad.block) := Lib.hid (by
            intro ad h hq0 he
            rcases hat' _ he with h1 | h1
            · exact HX.out ad h hq0 h1
            · obtain ⟨ad', e', hb3, _⟩ := hS2 0 hq0
              have : ad = ad' := by rw [h] at e'; exact Option.some.inj e'
              subst this
              omega)
          clear hat' hg'
          go_roundw
          case rel => exact ⟨j + 1, z, ds' ++ [y], hlt, by go_num, rfl, hzb, hb', by rw [List.length_append]; exact hown', hS3, Lib.hid (by rw [List.length_append, HL.out]; simp; omega), HN, HX'⟩
          case measure => simp [intOf]; omega
        · obtain rfl : j = 9 := by omega
          have HO := Lib.hid HD.out.out
          obtain ⟨Aq, cq, rfl, _⟩ := own_slice (by decide) hown3
          have hlq := HL.out
          go_wp2_with fail
          go_roundw
          case rel => exact ⟨q, ds', A2, c2, rfl, by omega, hX2, hS2, hB, hown3, HO⟩
          case measure => simp; omega
end Go.Proofs.YtciolgmljpamlaaGreatDoor
/- The contracts of number.Digits10 and loss.Free. -/
namespace Go.Proofs.YtciolgmljpamlaaGreatDoor
open Go Go.RowKit
set_option maxRecDepth 100000
set_option maxHeartbeats 2000000 in
theorem digits10_ok (n base : Nat) (v : Value) (w : World) (hv : IsInt w base n v) (hn : M.bl n ≤ 512) (hn0 : n ≠ 0) :
    Calls Tryz.prog 198 #[v] w fun e w' => e = .returned (.int .i64 (M.nd n : Nat)) ∧ Below w.heap.size w w' := by
  have hbyl := M.byt_bd hn
  have hv0 := hv
  obtain ⟨A, c, rfl, _, hS⟩ := hv
  have hB0 := (Below.refl w.heap.size w).alloc (Nat.le_refl _) (.cells #[.bool false, .slice A (M.byt n).length c] 220)
  have x0 : (w.alloc (.cells #[.bool false, .slice A (M.byt n).length c] 220)).heap[w.heap.size]? = some (.cells #[.bool false, .slice A (M.byt n).length c] 220 (0, 0)) := heap_alloc_new w _
  have s0 : w.heap.size < (w.alloc (.cells #[.bool false, .slice A (M.byt n).length c] 220)).heap.size := by simp
  have hv1 := hv0.kept ((Below.refl _ _).alloc (Nat.le_refl _) (.cells #[.bool false, .slice A (M.byt n).length c] 220))
  have hS1 := (hS.alloc (Nat.le_refl _) (.cells #[.bool false, .slice A (M.byt n).length c] 220)).more (B' := (w.alloc (.cells #[.bool false, .slice A (M.byt n).length c] 220)).heap.size) (by simp)
  have X0 := Lib.hid x0
  clear x0 hv0 hS
  go_enter Tryz.func198, Tryz.ntmps198
  go_wp2_with fail
  generalize w.alloc (.cells #[.bool false, .slice A (M.byt n).length c] 220) = W at *
  refine (numValid_ok n base _ W hv1 hn).mono ?_
  rintro e w1 ⟨rfl, hb1⟩
  have b1 := after_ hB0 hb1
  have y0 := (hb1.block w.heap.size s0).trans X0.out
  have c1 : w1.cell? ⟨w.heap.size, 1, none⟩ = some (.slice A (M.byt n).length c) := by rw [cell_of_row _ _ _ _ _ _ y0]; rfl
  have hS2 := (hS1.below hb1).more hb1.size
  clear y0 hv1 hS1 hb1 hB0
  go_wp2_with fail
  refine (natOf_any A c (M.byt n) w1 hS2 (M.byt_lt n) hbyl).mono ?_
  rintro e w2 ⟨A2, c2, rfl, h1, h2, hS3, hb2⟩
  rw [M.byt_val] at h1 hS3 ⊢
  have b2 := after_ b1 hb2
  clear c1 hS2 hb2 b1
  go_wp2_with fail
  refine (decimal_ok A2 c2 n w2 hS3 hn hn0).mono ?_
  rintro e w3 ⟨A3, c3, rfl, hb3⟩
  have b3 := after_ b2 hb3
  go_wp2_with fail
  go_ret
  exact ⟨rfl, b3⟩
def M.free (n : Nat) : Nat := if n = 0 then 0 else M.nd (n ^ 20) - 1
theorem M.bl20 {n : Nat} (h : n ≤ 7938) : M.bl (n ^ 20) ≤ 512 := by
  have h1 : n ^ 20 ≤ 7938 ^ 20 := Nat.pow_le_pow_left h 20
  have h2 : M.bl (7938 ^ 20) ≤ 512 := by decide +kernel
  exact Nat.le_trans (M.bl_mono h1) h2
theorem M.nd_pos {n : Nat} (h : n ≠ 0) : 1 ≤ M.nd n := by
  apply Nat.pos_of_ne_zero; intro h0
  have := M.nd_le.1 (Nat.le_of_eq h0)
  simp at this; omega
theorem M.nd_512 {n : Nat} (h : n ≤ 7938) : M.nd (n ^ 20) ≤ 512 := M.nd_bl (M.bl20 h)
set_option maxHeartbeats 2000000 in
theorem free_ok (n : Nat) (w : World) (hn : n ≤ 7938) : Calls Tryz.prog 177 #[.int .i64 (n : Int)] w fun e w' => e = .returned (.tuple #[.int .i64 (M.free n : Nat), .int .i64 0]) ∧ Below w.heap.size w w' := by
  by_cases h0 : n = 0
  · subst h0
    go_enter Tryz.func177, Tryz.ntmps177
    go_wp2_with fail
    go_ret2
    exact ⟨rfl, Below.refl _ _⟩
  · have hz : ((n : Int) == 0) = false := by simp; exact h0
    have hp0 : n ^ 20 ≠ 0 := by
      have : 0 < n ^ 20 := Nat.pow_pos (by omega)
      omega
    have HF : Hid (M.free n = M.nd (n ^ 20) - 1) := Lib.hid (by unfold M.free; rw [if_neg h0])
    have h1 : 1 ≤ n := by omega
    clear h0
    go_enter Tryz.func177, Tryz.ntmps177
    go_wp2_with fail
    refine (of_ok n w (by omega)).mono ?_
    rintro e w1 ⟨v1, rfl, hv1, hb1⟩
    go_wp2_with fail
    refine (power_ok n 20 _ v1 w1 hv1 h1 (by omega) (by omega) (M.bl20 hn)).mono ?_
    rintro e w2 ⟨v2, rfl, hv2, hb2⟩
    have b2 := after_ hb1 hb2
    have hnd1 := M.nd_pos hp0
    have hnd2 := M.nd_512 hn
    have HB := Lib.hid (M.bl20 hn)
    obtain ⟨p, hp⟩ : ∃ p, n ^ 20 = p := ⟨_, rfl⟩
    rw [hp] at HF HB hnd1 hnd2 hp0 hv2
    clear hp
    have hv2' := hv2
    obtain ⟨A2, c2, rfl, _, _⟩ := hv2'
    have hv3 := hv2.kept ((Below.refl _ _).alloc (Nat.le_refl _) (.cells #[.bool false, .slice A2 (M.byt p).length c2] 220))
    have b2' := b2.alloc b2.size (.cells #[.bool false, .slice A2 (M.byt p).length c2] 220)
    go_wp2_with fail
    refine (digits10_ok p _ _ _ hv3 HB.out hp0).mono ?_
    rintro e w3 ⟨rfl, hb3⟩
    have b3 := after_ b2' hb3
    go_wp2_with fail
    go_ret2
    exact ⟨ret_int2 (by rw [HF.out]; omega) rfl, b3⟩
end Go.Proofs.YtciolgmljpamlaaGreatDoor
end
