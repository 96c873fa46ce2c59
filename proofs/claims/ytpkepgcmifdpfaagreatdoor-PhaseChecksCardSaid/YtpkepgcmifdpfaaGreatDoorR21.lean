/- A bundle of texts: Tw8, Tw9. -/
import Derived.Test.YtpkepgcmifdpfaaGreatDoorR19
import Derived.Test.YtpkepgcmifdpfaaGreatDoorR20
import Derived.Test.YtpkepgcmifdpfaaGreatDoorR10
section
namespace Go.Proofs.YtpkepgcmifdpfaaGreatDoor
open Go Go.RowKit
set_option maxRecDepth 100000
def rcl (f : Nat → Nat) (k j : Nat) : Value := .int .u8 (f (64 * k + j))
theorem rcl_one (f : Nat → Nat) (k j : Nat) : (rcl f k j).oneCell' = true := rfl
theorem week_div {n : Nat} (h : n ≤ 1000000000) : IntKind.i64.wrap (Int.tdiv (n : Int) 64) = ((n / 64 : Nat) : Int) ∧ Int.tmod (n : Int) 64 = ((n % 64 : Nat) : Int) ∧ Int.tdiv (n : Int) 64 = ((n / 64 : Nat) : Int) := by
  have h1 : Int.tdiv (n : Int) 64 = ((n / 64 : Nat) : Int) := by rw [Int.tdiv_eq_ediv_of_nonneg (by omega)]; omega
  refine ⟨?_, ?_, h1⟩
  · rw [h1, IntWalk.i64_left]; exact IntWalk.wrap64_in _ (by omega)
  · rw [Int.tmod_eq_emod_of_nonneg (by omega)]; omega
set_option maxHeartbeats 4000000 in
theorem recAt_ok (A : Option Addr) (c n : Nat) (f : Nat → Nat) (t : Nat) (w : World) (hS : Sl 64 (rcl f) w w.heap.size A (List.range n)) (h0 : ∀ i, 64 * n ≤ i → f i = 0) (hf : f t ≤ 255) (hn : n ≤ 1000000) (ht : t ≤ 1000000000) :
    Calls Tryz.prog 110 #[.slice A n c, .int .i64 t] w fun e w' => e = .returned (.int .i64 (f t : Nat)) ∧ w = w' := by
  obtain ⟨e1, e2, e3⟩ := week_div ht
  obtain ⟨r, hr⟩ : ∃ r, f t = r := ⟨_, rfl⟩
  rw [hr] at hf ⊢
  have HR := Lib.hid hr
  have H0 := Lib.hid h0
  clear hr h0
  by_cases hlt : t / 64 < n
  · obtain ⟨ad, hA, hb, hc⟩ := hS (t / 64) (by simpa using hlt)
    have hcell : w.cell? ((ad.add (t / 64 * 64)).add (t % 64)) = some (.int .u8 (r : Nat)) := by
      rw [add_add, hc _ (Nat.mod_lt _ (by decide))]
      simp only [List.getElem_range, rcl]
      rw [Nat.div_add_mod, HR.out]
    have q0 : decide (((n : Nat) : Int) ≤ ((t / 64 : Nat) : Int)) = false := decide_eq_false (by omega)
    have q1 : ¬ ((n : Nat) : Int) ≤ ((t / 64 : Nat) : Int) := by omega
    have x0 : (0 : Int) ≤ ((t / 64 : Nat) : Int) := by omega
    have x1 : ((t / 64 : Nat) : Int) < (n : Int) := by omega
    have y0 : (0 : Int) ≤ ((t % 64 : Nat) : Int) := by omega
    have y1 : ((t % 64 : Nat) : Int) < 64 := by omega
    have hw : IntKind.i64.wrap (r : Int) = (r : Int) := by rw [IntWalk.i64_left]; exact IntWalk.wrap64_in _ (by omega)
    clear hc hf hlt
    generalize t / 64 = d at *
    generalize t % 64 = o at *
    subst hA
    go_enter Tryz.func110, Tryz.ntmps110
    go_wp2_with fail
    go_ret
    exact ⟨rfl, rfl⟩
  · have q0 : decide (((n : Nat) : Int) ≤ ((t / 64 : Nat) : Int)) = true := decide_eq_true (by omega)
    have HZ : Hid (0 = r) := Lib.hid (by rw [← HR.out, H0.out t (by omega)])
    have x0 : (0 : Int) ≤ ((t / 64 : Nat) : Int) := by omega
    have x1 : ((t / 64 : Nat) : Int) ≤ 1000000000 := by omega
    have x2 : n ≤ t / 64 := by omega
    clear hlt
    generalize t / 64 = d at *
    generalize t % 64 = o at *
    go_enter Tryz.func110, Tryz.ntmps110
    go_wp2_with fail
    go_ret
    exact ⟨by rw [← HZ.out]; rfl, rfl⟩
theorem chunkInfo : (Tryz.prog.info? 186).map (fun i => (i.zero, i.size, i.bytes)) = some (some (.agg (Array.replicate 64 (.int .u8 0))), 64, 64) := by kernel_rfl
def M.bump (f : Nat → Nat) (t i : Nat) : Nat := if i = t then f i + 1 else f i
def M.sLen : Value → Nat
  | .slice _ n _ => n
  | _ => 0
theorem add_off (b k j : Nat) : (⟨b, k, none⟩ : Addr).add j = ⟨b, k + j, none⟩ := by unfold Addr.add; split <;> simp_all
theorem bump_cell (f : Nat → Nat) {d o k j : Nat} (hj : j < 64) (ho : o < 64) (h : ¬ (k = d ∧ j = o)) : rcl (M.bump f (d * 64 + o)) k j = rcl f k j := by
  unfold rcl M.bump
  rw [if_neg (by omega)]
theorem bump_flat (f : Nat → Nat) {d o m : Nat} (ho : o < 64) (hd : d < m) : (flat 64 (rcl f) (List.range m)).set (d * 64 + o) (.int .u8 ((f (d * 64 + o) + 1 : Nat) : Int)) = flat 64 (rcl (M.bump f (d * 64 + o))) (List.range m) := by
  refine flat_ext (by decide) (by rw [List.length_set, flat_length]) fun k hk j hj => ?_
  have hk' : k < m := by simpa using hk
  by_cases e : k = d ∧ j = o
  · obtain ⟨rfl, rfl⟩ := e
    rw [List.getElem?_set_self (by rw [flat_length, List.length_range]; omega)]
    simp only [List.getElem_range, rcl, M.bump]
    rw [if_pos (by omega), show 64 * k + j = k * 64 + j by omega]
  · rw [List.getElem?_set_ne (by omega), flat_at hk hj]
    simp only [List.getElem_range]
    rw [bump_cell f hj ho e]
theorem grown_new {w w1 w2 : World} {row : Option Nat} {b : Option Nat} (h : w.grownBy w1 row) (h2 : w1.grownBy w2 b) (hb : ∀ g, b = some g → row = some g ∨ w.heap.size ≤ g) : w.grownBy w2 row := by
  refine ⟨h2.os.trans h.os, h2.tape.trans h.tape, h2.output.trans h.output, Nat.le_trans h.size h2.size, fun k hk hne => ?_⟩
  rw [h2.block k (Nat.lt_of_lt_of_le hk h.size) (fun e => by
    rcases hb k e.symm with h3 | h3
    · exact hne h3.symm
    · omega), h.block k hk hne]
theorem chunk_zero {f : Nat → Nat} {n : Nat} (h : ∀ i, 64 * n ≤ i → f i = 0) : (List.range 64).map (rcl f n) = List.replicate 64 (.int .u8 0) := by
  rw [List.eq_replicate_iff]
  refine ⟨by simp, fun b hb => ?_⟩
  obtain ⟨j, hj, rfl⟩ := List.mem_map.1 hb
  unfold rcl
  rw [h _ (by omega)]
  rfl
set_option maxHeartbeats 16000000 in
theorem recAdd_ok (base : Nat) (v : Value) (n : Nat) (f : Nat → Nat) (t : Nat) (w : World) (hown : w.ownsRow base 186 64 v n (flat 64 (rcl f) (List.range n))) (h0 : ∀ i, 64 * n ≤ i → f i = 0) (hf : f t < 255) (hn : n ≤ 1000000) (ht : t < 64000000) (hbase : base ≤ w.heap.size) :
    Calls Tryz.prog 88 #[v, .int .i64 t] w fun e w' => ∃ v' n', e = .returned v' ∧ w'.ownsRow base 186 64 v' n' (flat 64 (rcl (M.bump f t)) (List.range n')) ∧ (∀ i, 64 * n' ≤ i → M.bump f t i = 0) ∧ n' ≤ 1000000 ∧ w.grownBy w' v.ownBlock ∧ (∀ b, v'.ownBlock = some b → v.ownBlock = some b ∨ w.heap.size ≤ b) := by
  obtain ⟨i8, hi8, hz80, hz81, hz82⟩ := info_parts chunkInfo
  have Hi := Lib.hid hi8; have Hz0 := Lib.hid hz80; have Hz1 := Lib.hid hz81; have Hz2 := Lib.hid hz82
  clear hi8 hz80 hz81 hz82
  obtain ⟨e1, e2, e3⟩ := week_div (n := t) (by omega)
  have H0 := Lib.hid h0
  have HDM : Hid (t / 64 * 64 + t % 64 = t ∧ t % 64 < 64 ∧ t / 64 < 1000000) := Lib.hid (by omega)
  have hd0 : t / 64 < 1000000 := by omega
  have ho0 : t % 64 < 64 := by omega
  have HF := Lib.hid hf
  clear h0 hf
  generalize t / 64 = d at *
  generalize t % 64 = o at *
  go_enter Tryz.func88, Tryz.ntmps88
  go_wp2_with fail
  go_loopw [0] (fun s0 wr => ∃ (m : Nat), n ≤ m ∧ m ≤ 1000000 ∧ wr.ownsRow base 186 64 s0 m (flat 64 (rcl f) (List.range m)) ∧ w.grownBy wr v.ownBlock ∧ Hid (∀ b, s0.ownBlock = some b → v.ownBlock = some b ∨ w.heap.size ≤ b)) (fun s0 _ => 1000001 - M.sLen s0)
  case atStart => exact ⟨n, Nat.le_refl _, hn, hown, World.grownBy.refl _ _, Lib.hid (fun b hb => .inl hb)⟩
  case round =>
    clear hown
    obtain ⟨m, hnm, hm, hown, hg, HL⟩ := hrel
    obtain ⟨A, c, rfl, hS⟩ := own_slice (by decide) hown
    rw [List.length_range] at hown HL ⊢
    have x0 : (0 : Int) ≤ (d : Int) := by omega
    have x1 : (d : Int) ≤ 1000000000 := by omega
    have hsz := hg.size
    by_cases hlt : m ≤ d
    · have q0 : decide (((m : Nat) : Int) ≤ (d : Int)) = true := decide_eq_true (by omega)
      have x2 : ((m : Nat) : Int) ≤ (d : Int) := by omega
      have HZ : Hid ((List.range 64).map (rcl f m) = List.replicate 64 (.int .u8 0)) := Lib.hid (chunk_zero (fun i hi => H0.out i (by omega)))
      have hrs : List.range (m + 1) = List.range m ++ [m] := List.range_succ
      have HRS := Lib.hid hrs
      clear hS hrs
      generalize List.range m = rm at *
      go_wp2_with (at_builtin; go_loud (
        refine wpList_push2 (w0 := wr) (cell := rcl f) rfl _ _ 150 rfl base base 186 i8 _ 64 Tryz.underlying150 Hi.out Hz0.out Hz1.out Hz2.out rfl (by decide) _ m rm m rfl hown _ _ (by rw [HZ.out]; rfl) 1 rfl (fun j => rcl_one f m j) (by unfold maxLen; omega) (by omega) (by omega) (Nat.le_refl _) (Below.refl _ _) ?_
        intro v7 w7 hown7 hb7 hg7 hl7))
      have hg8 := grown_new hg hg7 HL.out
      have HL8 : Hid (∀ b, v7.ownBlock = some b → v.ownBlock = some b ∨ w.heap.size ≤ b) := Lib.hid (fun b hb => by
        rcases hl7 b hb with h1 | h1
        · exact HL.out b h1
        · exact .inr (by omega))
      rw [← HRS.out] at hown7
      obtain ⟨A7, c7, rfl, -⟩ := own_slice (by decide) hown7
      rw [List.length_range] at hown7 HL8 ⊢
      clear hl7
      go_roundw
      case rel => exact ⟨m + 1, by omega, by omega, hown7, hg8, HL8⟩
      case measure => simp [M.sLen]; omega
    · have q0 : decide (((m : Nat) : Int) ≤ (d : Int)) = false := decide_eq_false (by omega)
      have x2 : (d : Int) < ((m : Nat) : Int) := by omega
      have x3 : ¬ ((m : Nat) : Int) ≤ (d : Int) := by omega
      obtain ⟨g, cap, hA, hgb, hgl⟩ := hown.form (by omega)
      obtain ⟨rfl, rfl⟩ : A = some ⟨g, 0, none⟩ ∧ c = cap := by simpa using hA
      have hcell := own_at hown (k := d) (j := o) (by simpa using (by omega : d < m)) HDM.out.2.1
      simp only [List.getElem_range] at hcell
      obtain ⟨hc1, hc2⟩ := hcell
      obtain ⟨r, hr⟩ : ∃ r, f t = r := ⟨_, rfl⟩
      have hrt : rcl f d o = .int .u8 (r : Nat) := by
        unfold rcl
        rw [show 64 * d + o = t by have := HDM.out; omega, hr]
      rw [hrt] at hc1
      have hr255 : r < 255 := by rw [← hr]; exact HF.out
      have hw8 : IntKind.u8.wrap ((r : Int) + 1) = ((r + 1 : Nat) : Int) := by
        simp [IntKind.wrap, IntKind.bits, IntKind.signed]; omega
      have ab1 : (⟨g, 0, none⟩ : Addr).add (d * 64) = ⟨g, d * 64, none⟩ := add_base g (d * 64)
      have ab2 : (⟨g, d * 64, none⟩ : Addr).add o = ⟨g, d * 64 + o, none⟩ := add_off g (d * 64) o
      have y0 : (0 : Int) ≤ (o : Int) := by omega
      have y1 : (o : Int) < 64 := by omega
      have HR := Lib.hid hr
      have HOWN := Lib.hid hown
      have hc3 : ∀ u : Drw wr, u.val.cell? ⟨g, d * 64 + o, none⟩ = some (.int .u8 (r : Nat)) := fun u => hc1
      clear hr hrt hS hA hown
      go_wp2_with fail
      refine wp_region_drw_tail 11 (by kernel_rfl) (by kernel_rfl) ?_
      simp only [List.take_succ_cons, List.take_zero, List.drop_succ_cons, List.drop_zero]
      iterate 11 (go_big_quiet_step (fail))
      refine wpQuiet_nil ?_
      rintro w5 ⟨⟨q⟩, rfl⟩
      dsimp only [Drw.val]
      have hc4 : (wr.drewN q).cell? ⟨g, d * 64 + o, none⟩ = some (.int .u8 (r : Nat)) := hc1
      have hf4 : (wr.drewN q).frozen? ⟨g, d * 64 + o, none⟩ = false := hc2
      clear hc3
      go_wp2_with fail
      go_ret
      have hdm := HDM.out.1
      have h1 := ((ownsRow_drewN HOWN.out q).stored (d * 64 + o) (.int .u8 ((r : Int) + 1))).1
      have h4 := bump_flat f HDM.out.2.1 (by omega : d < m)
      rw [hdm, HR.out, show ((r + 1 : Nat) : Int) = (r : Int) + 1 by omega] at h4
      rw [hdm, h4] at h1
      have h2 : wr.grownBy ((wr.drewN q).setCell ⟨g, d * 64 + o, none⟩ (.int .u8 ((r : Int) + 1))) (some g) := by
        have := grown_set (wr.drewN q) g (d * 64 + o) (.int .u8 ((r : Int) + 1))
        exact ⟨this.os, this.tape, this.output, this.size, this.block⟩
      refine ⟨_, m, rfl, ?_, fun i hi => ?_, by omega, grown_new hg h2 (fun b hb => HL.out b (by cases hb; rfl)), fun b hb => HL.out b hb⟩
      · rw [hdm]; exact h1
      · unfold M.bump
        rw [if_neg (by have := HDM.out.1; omega)]
        exact H0.out i (by omega)
end Go.Proofs.YtpkepgcmifdpfaaGreatDoor
end

section
namespace Go.Proofs.YtpkepgcmifdpfaaGreatDoor
open Go Go.RowKit
set_option maxRecDepth 100000
theorem M.est_step {full : Nat → Bool} {n s t : Nat} (ht : t < s + n) (_ : s ≤ t) (hf : full t = true) (h : ∀ u, u < s → M.fre full n u = false) : ∀ u, u < t + 1 → M.fre full n u = false := by
  intro u hu
  by_cases e : u < s
  · exact h u e
  · rw [Bool.eq_false_iff]
    intro h2
    have := M.fre_iff.1 h2 t (by omega) (by omega)
    rw [hf] at this
    cases this
structure RecS (w : World) (A : Option Addr) (n : Nat) (f : Nat → Nat) : Prop where
  sl : Sl 64 (rcl f) w w.heap.size A (List.range n)
  far : ∀ i, 64 * n ≤ i → f i = 0
  small : ∀ i, f i ≤ 255
  len : n ≤ 1000000
theorem RecS.next {w w' : World} {A : Option Addr} {n : Nat} {f : Nat → Nat} (h : RecS w A n f) (hb : Below w.heap.size w w') : RecS w' A n f := ⟨(h.sl.below hb).more hb.size, h.far, h.small, h.len⟩
theorem RecS.at {w : World} {A : Option Addr} {n : Nat} {f : Nat → Nat} (h : RecS w A n f) (c t : Nat) (ht : t ≤ 1000000000) : Calls Tryz.prog 110 #[.slice A n c, .int .i64 t] w fun e w' => e = .returned (.int .i64 (f t : Nat)) ∧ w = w' := recAt_ok A c n f t w h.sl h.far (h.small t) h.len ht
set_option maxHeartbeats 16000000 in
theorem earliest_ok (A0 A1 : Option Addr) (c0 c1 n0 n1 : Nat) (f0 f1 : Nat → Nat) (k0 k1 : Int) (n B : Nat) (w : World) (h0 : RecS w A0 n0 f0) (h1 : RecS w A1 n1 f1) (hB : M.fre (fun t => decide (k0 ≤ (f0 t : Int)) || decide (k1 ≤ (f1 t : Int))) n B = true) (hBn : B + n ≤ 1000000) :
    Calls Tryz.prog 86 #[.int .i64 n, .agg #[.slice A0 n0 c0, .slice A1 n1 c1], .agg #[.int .i64 k0, .int .i64 k1]] w fun e w' => e = .returned (.int .i64 (M.est (fun t => decide (k0 ≤ (f0 t : Int)) || decide (k1 ≤ (f1 t : Int))) n B : Nat)) ∧ Below w.heap.size w w' := by
  obtain ⟨V, HW, x4, x5, hbV, hs⟩ := boxes2 w #[.slice A0 n0 c0, .slice A1 n1 c1] 151 #[.int .i64 k0, .int .i64 k1] 152
  have HS := Lib.hid hs
  obtain ⟨full, hfull⟩ : ∃ full : Nat → Bool, (fun t => decide (k0 ≤ (f0 t : Int)) || decide (k1 ≤ (f1 t : Int))) = full := ⟨_, rfl⟩
  rw [hfull] at hB ⊢
  have HFU : Hid (∀ t, full t = (decide (k0 ≤ (f0 t : Int)) || decide (k1 ≤ (f1 t : Int)))) := Lib.hid (fun t => by rw [← hfull])
  have HB := Lib.hid hB
  have g0 := h0.next hbV
  have g1 := h1.next hbV
  have H0 := Lib.hid g0
  have H1 := Lib.hid g1
  have hV := HW.out
  clear hs hfull hB h0 h1 g0 g1
  go_enter Tryz.func86, Tryz.ntmps86
  go_wp2_with fail
  clear hV
  go_loopw [7, 8] (fun a b wr => ∃ s t : Nat, a = .int .i64 s ∧ b = .int .i64 t ∧ s ≤ t ∧ t ≤ s + n ∧ s ≤ B ∧ Below w.heap.size w wr ∧ Below V.heap.size V wr ∧ Box wr w.heap.size #[.slice A0 n0 c0, .slice A1 n1 c1] 151 ∧ Box wr (w.heap.size + 1) #[.int .i64 k0, .int .i64 k1] 152 ∧ Hid (∀ j, s ≤ j → j < t → full j = false) ∧ Hid (∀ u, u < s → M.fre full n u = false)) (fun _ b _ => B + n + 1 - (intOf b).toNat)
  case atStart => exact ⟨0, 0, rfl, rfl, Nat.le_refl _, Nat.zero_le _, Nat.zero_le _, hbV, Below.refl _ _, x4, x5, Lib.hid (fun j _ h => absurd h (by omega)), Lib.hid (fun u h => absurd h (by omega))⟩
  case round =>
    clear x4 x5
    obtain ⟨s, t, rfl, rfl, hst, htn, hsB, hBr, hVr, x4, x5, HJ, HU⟩ := hrel
    have hadd : IntKind.i64.wrap ((s : Int) + (n : Int)) = ((s + n : Nat) : Int) := by rw [IntWalk.i64_left, IntWalk.wrap64_in _ (by omega)]; omega
    by_cases hlt : t < s + n
    · have q0 : decide ((t : Int) < ((s + n : Nat) : Int)) = true := decide_eq_true (by omega)
      have q0' : (t : Int) < (s : Int) + (n : Int) := by omega
      have r0 := H0.out.next hVr
      have r1 := H1.out.next hVr
      obtain ⟨a0, a1⟩ := x4.c2
      obtain ⟨b0, b1⟩ := x5.c2
      have l4 := x4.lt
      have l5 := x5.lt
      have kA : Hid (∀ u : Kept wr.heap.size wr, Calls Tryz.prog 110 #[.slice A0 n0 c0, .int .i64 t] u.val fun e w' => e = .returned (.int .i64 (f0 t : Nat)) ∧ u.val = w') := Lib.hid (fun u => (r0.next u.h).at c0 t (by omega))
      have kB : Hid (∀ u : Kept wr.heap.size wr, Calls Tryz.prog 110 #[.slice A1 n1 c1, .int .i64 t] u.val fun e w' => e = .returned (.int .i64 (f1 t : Nat)) ∧ u.val = w') := Lib.hid (fun u => (r1.next u.h).at c1 t (by omega))
      have HST := Lib.hid (M.est_step (full := full) hlt hst)
      have HFT := Lib.hid (HFU.out t)
      clear r0 r1
      generalize hF0 : f0 t = z0 at *
      generalize hF1 : f1 t = z1 at *
      clear hF0 hF1
      by_cases c0' : k0 ≤ (z0 : Int)
      · have q1 : decide (k0 ≤ (z0 : Int)) = true := decide_eq_true c0'
        have HF : Hid (full t = true) := Lib.hid (by rw [HFT.out, q1]; rfl)
        have HU2 := Lib.hid (HST.out HF.out HU.out)
        have HTB : Hid (t + 1 ≤ B) := Lib.hid (by
          rcases Nat.lt_or_ge t B with h | h
          · exact h
          · have := HU2.out B (by omega); rw [HB.out] at this; cases this)
        have htB := HTB.out
        clear HST HU HTB c0'
        go_wp2_with fail
        refine wp_region_kept wr.heap.size wr (by kernel_rfl) (by kernel_rfl) (Below.refl _ _) ?_
        repeat (go_big_quiet_step ((go_at_call 110; (first | with_reducible exact Kept.same (kA.out _) | with_reducible exact Kept.same (kB.out _)))))
        refine wpQuiet_nil ?_
        rintro w5 ⟨⟨w5x, hb5⟩, hw5⟩
        dsimp only at hw5
        subst hw5
        go_wp2_with fail
        go_roundw
        case rel => exact ⟨t + 1, t + 1, by go_num, by go_num, Nat.le_refl _, by omega, htB, after_ hBr hb5, after_ hVr hb5, x4.below hb5, x5.below hb5, Lib.hid (fun j h1 h2 => absurd h1 (by omega)), HU2⟩
        case measure => simp [intOf]; omega
      · have q1 : decide (k0 ≤ (z0 : Int)) = false := decide_eq_false c0'
        by_cases c1' : k1 ≤ (z1 : Int)
        · have q2 : decide (k1 ≤ (z1 : Int)) = true := decide_eq_true c1'
          have HF : Hid (full t = true) := Lib.hid (by rw [HFT.out, q1, q2]; rfl)
          have HU2 := Lib.hid (HST.out HF.out HU.out)
          have HTB : Hid (t + 1 ≤ B) := Lib.hid (by
            rcases Nat.lt_or_ge t B with h | h
            · exact h
            · have := HU2.out B (by omega); rw [HB.out] at this; cases this)
          have htB := HTB.out
          clear HST HU HTB c1'
          go_wp2_with fail
          refine wp_region_kept wr.heap.size wr (by kernel_rfl) (by kernel_rfl) (Below.refl _ _) ?_
          repeat (go_big_quiet_step ((go_at_call 110; (first | with_reducible exact Kept.same (kA.out _) | with_reducible exact Kept.same (kB.out _)))))
          refine wpQuiet_nil ?_
          rintro w5 ⟨⟨w5x, hb5⟩, hw5⟩
          dsimp only at hw5
          subst hw5
          go_wp2_with fail
          go_roundw
          case rel => exact ⟨t + 1, t + 1, by go_num, by go_num, Nat.le_refl _, by omega, htB, after_ hBr hb5, after_ hVr hb5, x4.below hb5, x5.below hb5, Lib.hid (fun j h1 h2 => absurd h1 (by omega)), HU2⟩
          case measure => simp [intOf]; omega
        · have q2 : decide (k1 ≤ (z1 : Int)) = false := decide_eq_false c1'
          have HF : Hid (full t = false) := Lib.hid (by rw [HFT.out, q1, q2]; rfl)
          have HJ2 : Hid (∀ j, s ≤ j → j < t + 1 → full j = false) := Lib.hid (fun j h1 h2 => by
            by_cases e : j = t
            · subst e; exact HF.out
            · exact HJ.out j h1 (by omega))
          clear HST HJ c1'
          go_wp2_with fail
          refine wp_region_kept wr.heap.size wr (by kernel_rfl) (by kernel_rfl) (Below.refl _ _) ?_
          repeat (go_big_quiet_step ((go_at_call 110; (first | with_reducible exact Kept.same (kA.out _) | with_reducible exact Kept.same (kB.out _)))))
          refine wpQuiet_nil ?_
          rintro w5 ⟨⟨w5x, hb5⟩, hw5⟩
          dsimp only at hw5
          subst hw5
          go_wp2_with fail
          go_roundw
          case rel => exact ⟨s, t + 1, rfl, by go_num, by omega, hlt, hsB, after_ hBr hb5, after_ hVr hb5, x4.below hb5, x5.below hb5, HJ2, HU⟩
          case measure => simp [intOf]; omega
    · have q0 : decide ((t : Int) < ((s + n : Nat) : Int)) = false := decide_eq_false (by omega)
      have q0' : ¬ (t : Int) < (s : Int) + (n : Int) := by omega
      have HE : Hid (s = M.est full n B) := Lib.hid (M.est_eq (M.fre_iff.2 (fun w h1 h2 => HJ.out w h1 (by omega))) HB.out HU.out)
      go_wp2_with fail
      go_ret
      exact ⟨by rw [← HE.out]; rfl, hBr⟩
end Go.Proofs.YtpkepgcmifdpfaaGreatDoor
end
