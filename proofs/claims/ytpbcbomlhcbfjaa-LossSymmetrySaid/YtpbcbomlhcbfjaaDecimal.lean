/- The contracts of number.decimal (its length) and number.Digits10. -/
import Derived.Test.YtpbcbomlhcbfjaaDiv
import Derived.Test.YtpbcbomlhcbfjaaRev
import Derived.Test.YtpbcbomlhcbfjaaPower
namespace Go.Proofs.Ytpbcbomlhcbfjaa
open Go Go.RowKit

/-- An ASCII digit. -/
def dc (x : Nat) (_ : Nat) : Value := .int .u8 (48 + (x : Int))
theorem d_one (x j : Nat) : (dc x j).oneCell' = true := rfl
theorem flat_dc (l : List Nat) : flat 1 dc l = flat 1 bc (l.map (48 + ·)) := by
  unfold flat; rw [List.flatMap_map]; congr 1
def RetLen (w : World) (k : Nat) (e : Ending) (w' : World) : Prop := ∃ A c, e = .returned (.slice A k c) ∧ Below w.heap.size w w'

theorem M.nd_bl {n k : Nat} (h : M.bl n ≤ k) : M.nd n ≤ k := M.nd_le.2 (Nat.lt_of_lt_of_le (M.bl_le.1 h) (Nat.pow_le_pow_left (by decide) k))

theorem own_take {α : Type} {size : Nat} {cell : α → Nat → Value} {w : World} {base : Nat} {e : TypeId} {g n cap k : Nat} {xs : List α} (hs : 0 < size) (h : w.ownsRow base e size (.slice (some ⟨g, 0, none⟩) n cap) n (flat size cell xs)) (hk : k ≤ n) :
    w.ownsRow base e size (.slice (some ⟨g, 0, none⟩) k cap) k (flat size cell (xs.take k)) := by
  have hn : n * size = xs.length * size := by rw [← h.1, flat_length]
  have hnl : n = xs.length := Nat.eq_of_mul_eq_mul_right hs hn
  rcases h.2 with ⟨h', _⟩ | ⟨g', cap', cur, h', hb, hg, hnc, hcm, hcs, htake⟩
  · simp at h'
  · simp only [Value.slice.injEq, Option.some.injEq, Addr.mk.injEq, and_true, true_and] at h'
    obtain ⟨rfl, rfl⟩ := h'
    refine ⟨by rw [flat_length, List.length_take]; congr 1; omega, .inr ⟨g, cap, cur, rfl, hb, hg, by omega, hcm, hcs, ?_⟩⟩
    have e1 : flat size cell xs = flat size cell (xs.take k) ++ flat size cell (xs.drop k) := by rw [← flat_append, List.take_append_drop]
    have e2 : (flat size cell (xs.take k)).length = k * size := by rw [flat_length, List.length_take]; congr 1; omega
    have : cur.toList.take (k * size) = (cur.toList.take (n * size)).take (k * size) := by
      rw [List.take_take, Nat.min_eq_left (Nat.mul_le_mul_right _ hk)]
    rw [this, htake, e1, List.take_append_of_le_length (by rw [e2]; exact Nat.le_refl _), List.take_of_length_le (by rw [e2]; exact Nat.le_refl _)]

set_option maxHeartbeats 4000000 in
theorem decimal_ok (A : Option Addr) (c : Nat) (n : Nat) (w : World) (ha : Sl 1 wc w w.heap.size A (M.wds n)) (hn : M.bl n ≤ 512) (hn0 : n ≠ 0) :
    Calls Try.prog 44 #[.slice A (M.wds n).length c] w (RetLen w (M.nd n)) := by
  have hl : (M.wds n).length ≤ 16 := M.wds_bl (by omega)
  have hl0 : 0 < (M.wds n).length := by
    apply Nat.pos_of_ne_zero; intro h
    have := M.wds_val n
    rw [List.eq_nil_of_length_eq_zero h] at this
    exact hn0 this.symm
  have hnd : M.nd n ≤ 512 := M.nd_bl hn
  obtain ⟨i0, hi, hz0, hz1, hz2⟩ := info_parts u8Info
  have Hi := Lib.hid hi; have Hz0 := Lib.hid hz0; have Hz1 := Lib.hid hz1; have Hz2 := Lib.hid hz2
  clear hi hz0 hz1 hz2
  have hz : (((M.wds n).length : Int) == 0) = false := by simp; intro h; rw [h] at hl0; simp at hl0
  go_enter Try.func44, Try.ntmps44
  go_wp2_with fail
  go_loopw [0, 3] (fun x out wr => ∃ (X : Nat) (ds : List Nat) (A' : Option Addr) (c' : Nat), x = .slice A' (M.wds X).length c' ∧ ds.length ≤ 600 ∧ M.bl X ≤ 512 ∧ Sl 1 wc wr wr.heap.size A' (M.wds X) ∧ Below w.heap.size w wr ∧ wr.ownsRow w.heap.size 5 1 out ds.length (flat 1 dc ds) ∧ Hid (M.DecInv n X ds)) (fun _ out _ => match out with | .slice _ k _ => M.nd n - k | _ => 0)
  case atStart => exact ⟨n, [], A, c, rfl, by simp, hn, ha, Below.refl _ _, own_nil _ _ _ _ _, Lib.hid ⟨fun d hd => by simp at hd, by simp [M.val]⟩⟩
  case round =>
    clear ha hl hl0 hz
    obtain ⟨X, ds, A', c', rfl, hds, hX, hS, hB, hown, HI⟩ := hrel
    by_cases hX0 : X = 0
    · have hv0 := HI.out.val_
      rw [hX0, Nat.mul_zero, Nat.add_zero] at hv0
      have hT := M.dec_eq HI.out.lt hv0
      have HE : Hid ((M.trm ds).length = M.nd n) := Lib.hid (by rw [hT]; rfl)
      have hne : M.trm ds ≠ [] := by
        intro h
        have h2 := M.trm_val 10 ds
        rw [h, hv0] at h2
        exact hn0 h2.symm
      have HNE := Lib.hid hne
      have HLT := Lib.hid HI.out.lt
      have hw0 : M.wds X = [] := by rw [hX0]; decide +kernel
      have hl0 : (M.wds X).length = 0 := by rw [hw0]; rfl
      have HW := Lib.hid hl0
      rw [hl0]
      clear hv0 hT hne hw0 hl0 hX0 HI hS
      obtain ⟨Ao, co, rfl, hSo⟩ := own_slice (by decide) hown
      have hpos : 0 < ds.length := by
        apply Nat.pos_of_ne_zero; intro h
        exact HNE.out (by rw [List.eq_nil_of_length_eq_zero h]; rfl)
      obtain ⟨g, cap, hv, hbg, hgl⟩ := hown.form hpos
      obtain ⟨rfl, rfl⟩ : Ao = some ⟨g, 0, none⟩ ∧ co = cap := by injection hv with h1 h2 h3; exact ⟨h1, h3⟩
      clear hv
      go_wp2_with fail
      go_loop [3] (fun x => ∃ k : Nat, 1 ≤ k ∧ k ≤ ds.length ∧ x = .slice (some ⟨g, 0, none⟩) k co ∧ Hid (M.trm (ds.take k) = M.trm ds)) (fun x => match x with | .slice _ k _ => k | _ => 0)
      case atStart => exact ⟨ds.length, hpos, Nat.le_refl _, rfl, Lib.hid (by rw [List.take_length])⟩
      case round =>
        obtain ⟨k, hk1, hk, rfl, HT⟩ := hrel
        obtain ⟨k, rfl⟩ : ∃ j, k = j + 1 := ⟨k - 1, by omega⟩
        obtain ⟨f1, _⟩ := own_at hown (k := k) (by omega) (j := 0) (by decide)
        have hcap : ds.length ≤ co := by
          rcases hown.2 with ⟨h', _⟩ | ⟨g', cap', cur, h', _, _, hnc, _⟩
          · cases h'
          · injection h' with _ _ h3; omega
        simp only [dc, Nat.mul_one, Nat.add_zero] at f1
        by_cases h0 : ds[k] = 0
        · have hT2 := M.trm_at (by omega) HT.out h0
          have hk0 : k ≠ 0 := by
            intro hk0
            rw [hk0] at hT2
            exact HNE.out (by rw [← hT2]; rfl)
          have HT2 := Lib.hid hT2
          rw [h0] at f1
          clear hT2 h0
          go_wp2_with fail
          go_round
          case rel => exact ⟨k, by omega, by omega, rfl, HT2⟩
          case measure => simp
        · have hstop := M.trm_stop (by omega) HT.out h0
          have HK : Hid (k + 1 = M.nd n) := Lib.hid (by rw [← HE.out, hstop]; simp; omega)
          have hx10 := HLT.out ds[k] (List.getElem_mem _)
          generalize ds[k] = x at *
          have hb : ((48 : Int) + (x : Int) == 48) = false := by simp; omega
          clear h0 hstop
          have hown5 := own_take (k := k + 1) (by decide) hown hk
          rw [flat_dc] at hown5
          go_wp2_with fail
          refine (reverse_ok g (k + 1) co w.heap.size _ wr hown5 (by omega)).mono ?_
          rintro e w6 ⟨rfl, hb6⟩
          go_wp2_with fail
          go_ret
          exact ⟨_, _, by rw [← HK.out]; rfl, hB.trans hb6⟩
    · have hmore := HI.out.more hX0
      have hlX : (M.wds X).length ≤ 16 := M.wds_bl (by omega)
      have hlX0 : 0 < (M.wds X).length := by
        apply Nat.pos_of_ne_zero; intro h
        have := M.wds_val X
        rw [List.eq_nil_of_length_eq_zero h] at this
        exact hX0 this.symm
      obtain ⟨Ao, co, rfl, _⟩ := own_slice (by decide) hown
      go_wp2_with fail
      refine (divSmall_any A' c' X 1000000000 wr hS (by omega) (by omega) (by omega)).mono ?_
      rintro e w2 ⟨A2, c2, rfl, hfr, hS2, hb2⟩
      have hB2 := after_ hB hb2
      have hown2 := own_below hown hb2
      have hX2 : M.bl (X / 1000000000) ≤ 512 := Nat.le_trans (M.bl_mono (Nat.div_le_self _ _)) hX
      have HD := Lib.hid HI.out.in_
      obtain ⟨r, hr⟩ : ∃ r, X % 1000000000 = r := ⟨_, rfl⟩
      have hrb : r < 1000000000 := by omega
      rw [hr] at HD ⊢
      obtain ⟨q, hq⟩ : ∃ q, X / 1000000000 = q := ⟨_, rfl⟩
      rw [hq] at HD hX2 hS2 ⊢
      have hdist : Hid (∀ ad, A2 = some ad → 0 < (M.wds q).length → (Value.slice Ao ds.length co).ownBlock ≠ some ad.block) := Lib.hid (fun ad h _ he => by
        have h1 := hfr ad h
        have h2 := (hown.lt _ he).2
        omega)
      clear hr hq hown hS hb2 hlX0 hlX hfr
      go_wp2_with fail
      go_loopw [3, 4, 17] (fun out rr i wr => ∃ (j r : Nat) (ds' : List Nat), j ≤ 9 ∧ i = .int .i64 j ∧ rr = .int .u32 (r : Int) ∧ r < 1000000000 ∧ Below w.heap.size w wr ∧ wr.ownsRow w.heap.size 5 1 out ds'.length (flat 1 dc ds') ∧ Sl 1 wc wr wr.heap.size A2 (M.wds q) ∧ Hid (ds'.length = ds.length + j) ∧ Hid (M.DecIn n q ds' j r) ∧ Hid (∀ ad, A2 = some ad → 0 < (M.wds q).length → out.ownBlock ≠ some ad.block)) (fun _ _ i _ => 9 - (intOf i).toNat)
      case atStart => exact ⟨0, r, ds, by omega, rfl, rfl, hrb, hB2, hown2, hS2, Lib.hid rfl, HD, hdist⟩
      case round =>
        clear hown2 HD hrb hdist hS2 hB2 hB
        obtain ⟨j, r, ds', hj, rfl, rfl, hrb, hB, hown3, hS2, HL, HD, HX⟩ := hrel
        by_cases hlt : j < 9
        · have HN := Lib.hid (HD.out.step hlt)
          have hlen : ds'.length ≤ 700 := by have := HL.out; omega
          have er : (r : Int) % 10 = ((r % 10 : Nat) : Int) := by rw [Int.natCast_emod]; rfl
          obtain ⟨y, hy⟩ : ∃ y, r % 10 = y := ⟨_, rfl⟩
          have hy10 : y < 10 := by omega
          rw [hy] at er HN
          clear hy
          obtain ⟨z, hz⟩ : ∃ z, r / 10 = z := ⟨_, rfl⟩
          have hzb : z < 1000000000 := by omega
          have ez : (r : Int) / 10 = (z : Int) := by rw [← hz, Int.natCast_ediv]; rfl
          rw [hz] at HN
          clear hz
          go_wp2_with (at_builtin; refine wpList_push2 (w0 := w) (cell := dc) (y := y) rfl _ _ _ rfl w.heap.size w.heap.size 5 i0 _ 1 Try.underlying46 Hi.out Hz0.out Hz1.out Hz2.out rfl (by decide) _ ds'.length _ rfl hown3 _ _ rfl _ rfl (d_one _) (by unfold maxLen; omega) (by omega) hB.size (Nat.le_refl _) hB ?_; intro v' w' hown' hb' hg' hat')
          have hS3 := hS2.grownFar hg' HX.out
          have HX' : Hid (∀ ad, A2 = some ad → 0 < (M.wds q).length → v'.ownBlock ≠ some ad.block) := Lib.hid (by
            intro ad h hq0 he
            rcases hat' _ he with h1 | h1
            · exact HX.out ad h hq0 h1
            · obtain ⟨ad', e', hb3, _⟩ := hS2 0 hq0
              have : ad = ad' := by rw [h] at e'; exact Option.some.inj e'
              subst this
              omega)
          clear hat' hg'
          go_roundw
          case rel => exact ⟨j + 1, z, ds' ++ [y], hlt, by go_num, rfl, hzb, hb', by rw [List.length_append]; exact hown', hS3, Lib.hid (by rw [List.length_append, HL.out]; simp; omega), HN, HX'⟩
          case measure => simp [intOf]; omega
        · obtain rfl : j = 9 := by omega
          have HO := Lib.hid HD.out.out
          obtain ⟨Aq, cq, rfl, _⟩ := own_slice (by decide) hown3
          have hlq := HL.out
          go_wp2_with fail
          go_roundw
          case rel => exact ⟨q, ds', A2, c2, rfl, by omega, hX2, hS2, hB, hown3, HO⟩
          case measure => simp; omega
end Go.Proofs.Ytpbcbomlhcbfjaa
