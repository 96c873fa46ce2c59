/- A bundle of texts: Dg2, Dg3, Dg4, Dg5, Dg6. -/
import Derived.Test.YtpkepgcmifdpfaaGreatDoorR12
import Derived.Test.YtpkepgcmifdpfaaGreatDoorR13
import Derived.Test.YtpkepgcmifdpfaaGreatDoorR11
import Derived.Test.YtpkepgcmifdpfaaGreatDoorR01
import Derived.Deep.AppendLies
import Derived.Maps.AppendAt
import Derived.Test.YtpkepgcmifdpfaaGreatDoorR10
import Derived.Test.YtpkepgcmifdpfaaGreatDoorR03
section
namespace Go.Proofs.YtpkepgcmifdpfaaGreatDoor
open Go Go.RowKit
set_option maxRecDepth 100000
theorem bsInfo : (Tryz.prog.info? 169).map (fun i => (i.zero, i.size, i.bytes)) = some (some (.agg #[.int .u64 0, .int .u64 0, .int .u64 0, .int .u64 0, .int .u64 0, .int .u64 0, .int .u64 0, .int .u64 0]), 8, 64) := by kernel_rfl
theorem bscell0 (j : Nat) : bscell 0 j = .int .u64 0 := by
 unfold bscell
 rw [zero8]
 rcases j with _ | _ | _ | _ | _ | _ | _ | _ | j <;> rfl
set_option maxHeartbeats 8000000 in
theorem dgNew_ok (n : Nat) (w : World) (hn : n ≤ 512) : Calls Tryz.prog 116 #[.int .i64 n] w fun e w' => ∃ bg g, e = .returned (.tuple #[gp bg, .int .i64 0]) ∧ w.heap.size ≤ g ∧ g < bg ∧ Box w' bg #[.bool true, .slice (some ⟨g, 0, none⟩) n n, .int .i64 0] 217 ∧ w'.ownsRow w.heap.size 169 8 (.slice (some ⟨g, 0, none⟩) n n) n (flat 8 bscell (List.replicate n 0)) ∧ Below w.heap.size w w' := by
 obtain ⟨i8, hi8, hz0, hz1, hz2⟩ := info_parts bsInfo
 have Hi := Lib.hid hi8; have Hz0 := Lib.hid hz0; have Hz1 := Lib.hid hz1; have Hz2 := Lib.hid hz2
 clear hi8 hz0 hz1 hz2
 have g1 : decide ((n : Int) < 0) = false := decide_eq_false (by omega)
 have g2 : decide ((512 : Int) < (n : Int)) = false := decide_eq_false (by omega)
 go_enter Tryz.func116, Tryz.ntmps116
 go_wp2_with (at_make; refine wpList_make_full _ rfl _ _ 213 rfl w.heap.size 169 i8 _ 8 Tryz.underlying213 Hi.out Hz0.out Hz1.out .i64 .i64 _ _ n rfl rfl rfl rfl (by rw [Hz2.out]; omega) (by unfold maxLen; omega) (Nat.le_refl _) ?_; intro w2 hown2 hg2; obtain ⟨X, HX, bx, hbX, -⟩ := boxes1 w2 #[.bool true, .slice (some ⟨w.heap.size, 0, none⟩) n n, .int .i64 0] 217; have hX := HX.out)
 go_ret2
 have em := made_flat (cell := bscell) (size := 8) (x0 := 0) (by decide) (Value.agg #[.int .u64 0, .int .u64 0, .int .u64 0, .int .u64 0, .int .u64 0, .int .u64 0, .int .u64 0, .int .u64 0]).cells (by simp [Value.cells, bscell0, List.range_succ]) n
 rw [em] at hown2
 have hb2 : Below w.heap.size w w2 := (Below.refl _ _).grown hg2 (Nat.le_refl _) (by simp)
 exact ⟨w2.heap.size, w.heap.size, rfl, Nat.le_refl _, (own_lt hown2).2, bx, own_below hown2 hbX, after_ hb2 hbX⟩
end Go.Proofs.YtpkepgcmifdpfaaGreatDoor
end

section
namespace Go.Proofs.YtpkepgcmifdpfaaGreatDoor
open Go Go.RowKit
set_option maxRecDepth 100000
theorem below_grown {w w' : World} (hb : Below w.heap.size w w') : w.grownBy w' none := ⟨hb.os, hb.tape, hb.output, hb.size, fun k hk _ => hb.block k hk⟩
theorem grown_set (w : World) (b i : Nat) (v : Value) : w.grownBy (w.setCell ⟨b, i, none⟩ v) (some b) :=
 ⟨rfl, rfl, rfl, by simp, fun k _ hk => heap_setCell_other w ⟨b, i, none⟩ k v (fun e => hk (by simp [e]))⟩
theorem grown_any {w w' : World} (h : w.grownBy w' none) (row : Option Nat) : w.grownBy w' row := ⟨h.os, h.tape, h.output, h.size, fun i hi _ => h.block i hi (by simp)⟩
structure GO (w : World) (base g bg n : Nat) (R : List Nat) (arcs : Int) : Prop where
 box : Box w bg #[.bool true, .slice (some ⟨g, 0, none⟩) n n, .int .i64 arcs] 217
 own : w.ownsRow base 169 8 (.slice (some ⟨g, 0, none⟩) n n) n (flat 8 bscell R)
 len : R.length = n
 far : g < bg
theorem GO.dg {w : World} {base g bg n : Nat} {R : List Nat} {arcs : Int} (h : GO w base g bg n R arcs) : DG w bg (some ⟨g, 0, none⟩) n R arcs := ⟨by rw [h.len]; exact h.box, Sl.of_own (by decide) h.own⟩
theorem GO.next {w w' : World} {base g bg n : Nat} {R : List Nat} {arcs : Int} (h : GO w base g bg n R arcs) (hb : Below w.heap.size w w') : GO w' base g bg n R arcs := ⟨h.box.below hb, own_below h.own hb, h.len, h.far⟩
theorem GO.cells {w : World} {base g bg n : Nat} {R : List Nat} {arcs : Int} (h : GO w base g bg n R arcs) {k : Nat} (hk : k < R.length) : ∀ j, j < 8 → w.cell? ⟨g, k * 8 + j, none⟩ = some (bscell R[k] j) ∧ w.frozen? ⟨g, k * 8 + j, none⟩ = false := fun _ hj => own_at h.own hk hj
theorem GO.lt {w : World} {base g bg n : Nat} {R : List Nat} {arcs : Int} (h : GO w base g bg n R arcs) : base ≤ g ∧ g < w.heap.size := own_lt h.own
theorem GO.put {w : World} {base g bg n : Nat} {R : List Nat} {arcs : Int} (h : GO w base g bg n R arcs) {k : Nat} (hk : k < R.length) (y : Nat) : GO (setRun w g (k * 8) ((List.range 8).map (bscell y))) base g bg n (R.set k y) arcs :=
 ⟨h.box.grown (setRun_grown _ (World.grownBy.refl w (some g))) (fun e => by have e2 : bg = g := Option.some.inj e; have := h.far; omega), own_put (by decide) h.own hk y, by rw [List.length_set]; exact h.len, h.far⟩
theorem GO.arc {w : World} {base g bg n : Nat} {R : List Nat} {arcs : Int} (h : GO w base g bg n R arcs) (c : Int) : GO (w.setCell ⟨bg, 2, none⟩ (.int .i64 c)) base g bg n R c :=
 ⟨h.box.set 2 _, World.ownsRow.kept h.own (grown_set w bg 2 (.int .i64 c)) (.inr (fun e => by have e2 : g = bg := Option.some.inj e; have := h.far; omega)), h.len, h.far⟩
def Two (w w' : World) (g bg : Nat) : Prop := ∃ w1, w.grownBy w1 (some g) ∧ w1.grownBy w' (some bg)
set_option maxHeartbeats 16000000 in
theorem dgAdd_ok (base g bg n a b : Nat) (R : List Nat) (arcs : Int) (w : World) (h : GO w base g bg n R arcs) (ha : a < n) (hb : b < n) (hab : a ≠ b) (hn : n ≤ 512) (hnew : (Dg.row R a).testBit b = false) (hc : 0 ≤ arcs ∧ arcs ≤ 1000000000) :
  Calls Tryz.prog 117 #[gp bg, .int .i64 a, .int .i64 b] w fun e w' => e = .returned (.int .i64 0) ∧ GO w' base g bg n (R.set a (Dg.row R a ||| 2 ^ b)) (arcs + 1) ∧ Two w w' g bg := by
 have hl := h.len
 have haR : a < R.length := by omega
 have hbR : b < R.length := by omega
 rw [row_at haR] at hnew ⊢
 have kV := dgValid_ok bg _ n R arcs w h.dg
 have kA := dgHas_ok bg _ n R arcs a w h.dg
 have kB := dgHas_ok bg _ n R arcs b w h.dg
 rw [decide_eq_true haR] at kA
 rw [decide_eq_true hbR] at kB
 have kH := bsHas_ok R[a] b w (by omega)
 rw [hnew] at kH
 clear hnew
 have hcs := h.cells haR
 have HP : Hid (∀ w1, GO w1 base g bg n R arcs → GO (setRun w1 g (a * 8) ((List.range 8).map (bscell (R[a] ||| 2 ^ b)))) base g bg n (R.set a (R[a] ||| 2 ^ b)) arcs) := Lib.hid (fun w1 h1 => h1.put haR _)
 generalize R.set a (R[a] ||| 2 ^ b) = R' at *
 have HC : Hid (∀ w1, GO w1 base g bg n R arcs → ∀ j, j < 8 → w1.cell? ⟨g, a * 8 + j, none⟩ = some (bscell R[a] j) ∧ w1.frozen? ⟨g, a * 8 + j, none⟩ = false) := Lib.hid (fun w1 h1 => h1.cells haR)
 generalize R[a] = r at *
 obtain ⟨e0, e1, e2⟩ := h.box.c3
 have a0 : w.cell? ⟨g, a * 8, none⟩ = some (.int .u64 (Bs.wd r 0 : Nat)) := (hcs 0 (by decide)).1
 have a1 : w.cell? ⟨g, a * 8 + 1, none⟩ = some (.int .u64 (Bs.wd r 1 : Nat)) := (hcs 1 (by decide)).1
 have a2 : w.cell? ⟨g, a * 8 + 2, none⟩ = some (.int .u64 (Bs.wd r 2 : Nat)) := (hcs 2 (by decide)).1
 have a3 : w.cell? ⟨g, a * 8 + 3, none⟩ = some (.int .u64 (Bs.wd r 3 : Nat)) := (hcs 3 (by decide)).1
 have a4 : w.cell? ⟨g, a * 8 + 4, none⟩ = some (.int .u64 (Bs.wd r 4 : Nat)) := (hcs 4 (by decide)).1
 have a5 : w.cell? ⟨g, a * 8 + 5, none⟩ = some (.int .u64 (Bs.wd r 5 : Nat)) := (hcs 5 (by decide)).1
 have a6 : w.cell? ⟨g, a * 8 + 6, none⟩ = some (.int .u64 (Bs.wd r 6 : Nat)) := (hcs 6 (by decide)).1
 have a7 : w.cell? ⟨g, a * 8 + 7, none⟩ = some (.int .u64 (Bs.wd r 7 : Nat)) := (hcs 7 (by decide)).1
 clear hcs
 have x0 : (0 : Int) ≤ (a : Int) := by omega
 have x1 : (a : Int) < (n : Int) := by omega
 have q0 : ((a : Int) == (b : Int)) = false := by simpa using (by omega : ¬ ((a : Int) = (b : Int)))
 clear hl haR hbR hab
 go_enter Tryz.func117, Tryz.ntmps117
 go_wp2_with fail
 refine kV.mono ?_
 rintro e w1 ⟨rfl, rfl⟩
 go_wp2_with fail
 refine kA.mono ?_
 rintro e w1 ⟨rfl, rfl⟩
 go_wp2_with fail
 refine kB.mono ?_
 rintro e w1 ⟨rfl, rfl⟩
 go_wp2_with fail
 refine kH.mono ?_
 rintro e w1 ⟨rfl, hb1⟩
 have h1 := h.next hb1
 clear e0 e1 e2 a0 a1 a2 a3 a4 a5 a6 a7 kV kA kB kH
 have hcs := HC.out w1 h1
 obtain ⟨e0, e1, e2⟩ := h1.box.c3
 have a0 : w1.cell? ⟨g, a * 8, none⟩ = some (.int .u64 (Bs.wd r 0 : Nat)) := (hcs 0 (by decide)).1
 have a1 : w1.cell? ⟨g, a * 8 + 1, none⟩ = some (.int .u64 (Bs.wd r 1 : Nat)) := (hcs 1 (by decide)).1
 have a2 : w1.cell? ⟨g, a * 8 + 2, none⟩ = some (.int .u64 (Bs.wd r 2 : Nat)) := (hcs 2 (by decide)).1
 have a3 : w1.cell? ⟨g, a * 8 + 3, none⟩ = some (.int .u64 (Bs.wd r 3 : Nat)) := (hcs 3 (by decide)).1
 have a4 : w1.cell? ⟨g, a * 8 + 4, none⟩ = some (.int .u64 (Bs.wd r 4 : Nat)) := (hcs 4 (by decide)).1
 have a5 : w1.cell? ⟨g, a * 8 + 5, none⟩ = some (.int .u64 (Bs.wd r 5 : Nat)) := (hcs 5 (by decide)).1
 have a6 : w1.cell? ⟨g, a * 8 + 6, none⟩ = some (.int .u64 (Bs.wd r 6 : Nat)) := (hcs 6 (by decide)).1
 have a7 : w1.cell? ⟨g, a * 8 + 7, none⟩ = some (.int .u64 (Bs.wd r 7 : Nat)) := (hcs 7 (by decide)).1
 clear hcs
 go_wp2_with fail
 have h1d : GO w1.drew base g bg n R arcs := h1.next (Below.refl _ _).drew
 have HK : Hid (∀ w2, Below w1.drew.heap.size w1.drew w2 → ∀ j, j < 8 → w2.cell? ⟨g, a * 8 + j, none⟩ = some (bscell r j) ∧ w2.frozen? ⟨g, a * 8 + j, none⟩ = false) := Lib.hid (fun w2 hb2 => HC.out w2 (h1d.next hb2))
 have HB : Hid (∀ w2, Below w1.drew.heap.size w1.drew w2 → _) := Lib.hid (fun w2 hb2 => (h1d.next hb2).box.c3)
 go_region_law (go_simp; go_at_call 121; refine (bsAdd_ok r b _ (by omega)).mono ?_; rintro e w2 ⟨rfl, hb2⟩; obtain ⟨t0, t1, t2⟩ := HB.out _ hb2; have z0 := (HK.out _ hb2 0 (by decide)).1; have z1 := (HK.out _ hb2 1 (by decide)).1; have z2 := (HK.out _ hb2 2 (by decide)).1; have z3 := (HK.out _ hb2 3 (by decide)).1; have z4 := (HK.out _ hb2 4 (by decide)).1; have z5 := (HK.out _ hb2 5 (by decide)).1; have z6 := (HK.out _ hb2 6 (by decide)).1; have z7 := (HK.out _ hb2 7 (by decide)).1; have y0 := (HK.out _ hb2 0 (by decide)).2; have y1 := (HK.out _ hb2 1 (by decide)).2; have y2 := (HK.out _ hb2 2 (by decide)).2; have y3 := (HK.out _ hb2 3 (by decide)).2; have y4 := (HK.out _ hb2 4 (by decide)).2; have y5 := (HK.out _ hb2 5 (by decide)).2; have y6 := (HK.out _ hb2 6 (by decide)).2; have y7 := (HK.out _ hb2 7 (by decide)).2; simp only [Nat.add_zero] at z0 y0)
 all_goals
  have h2 := h1d.next hb2
  have hput := HP.out w2 h2
  have hg2 := setRun_grown (g := g) (o := a * 8) ((List.range 8).map (bscell (r ||| 2 ^ b))) (grown_any (below_grown (hb1.drew.trans (hb2.mono hb1.size))) (some g))
  obtain ⟨X, hX⟩ : ∃ X, setRun w2 g (a * 8) ((List.range 8).map (bscell (r ||| 2 ^ b))) = X := ⟨_, rfl⟩
  rw [hX] at hput hg2
  replace hX : ((((((((w2.setCell ⟨g, a * 8, none⟩ (.int .u64 (Bs.wd (r ||| 2 ^ b) 0 : Nat))).setCell ⟨g, a * 8 + 1, none⟩ (.int .u64 (Bs.wd (r ||| 2 ^ b) 1 : Nat))).setCell ⟨g, a * 8 + 2, none⟩ (.int .u64 (Bs.wd (r ||| 2 ^ b) 2 : Nat))).setCell ⟨g, a * 8 + 3, none⟩ (.int .u64 (Bs.wd (r ||| 2 ^ b) 3 : Nat))).setCell ⟨g, a * 8 + 4, none⟩ (.int .u64 (Bs.wd (r ||| 2 ^ b) 4 : Nat))).setCell ⟨g, a * 8 + 5, none⟩ (.int .u64 (Bs.wd (r ||| 2 ^ b) 5 : Nat))).setCell ⟨g, a * 8 + 6, none⟩ (.int .u64 (Bs.wd (r ||| 2 ^ b) 6 : Nat))).setCell ⟨g, a * 8 + 7, none⟩ (.int .u64 (Bs.wd (r ||| 2 ^ b) 7 : Nat))) = X := hX
  rw [hX]
  clear hX z0 z1 z2 z3 z4 z5 z6 z7 y0 y1 y2 y3 y4 y5 y6 y7 t0 t1 t2 e0 e1 e2 a0 a1 a2 a3 a4 a5 a6 a7
  obtain ⟨e0, e1, e2⟩ := hput.box.c3
  have f2 := hput.box.frozen 2
  go_wp2_with fail
  go_ret
  exact ⟨rfl, hput.arc _, X, hg2, grown_set _ _ _ _⟩
end Go.Proofs.YtpkepgcmifdpfaaGreatDoor
end

section
namespace Go.Proofs.YtpkepgcmifdpfaaGreatDoor
open Go Go.RowKit
set_option maxRecDepth 100000
namespace Dg
open Bs
structure RI (R : List Nat) (v F T : Nat) : Prop where
  fF : Fit F
  fT : Fit T
  sub : ∀ j, T.testBit j = true → F.testBit j = true
  has : F.testBit v = true
  rch : ∀ j, F.testBit j = true → Reach R v j
  shut : ∀ a b, F.testBit a = true → T.testBit a = false → (row R a).testBit b = true → F.testBit b = true
theorem RI.start {R : List Nat} (h : Ok R) {v : Nat} (hv : v < R.length) : RI R v (2 ^ v) (2 ^ v) where
  fF := fit_one (by have := h.len; omega)
  fT := fit_one (by have := h.len; omega)
  sub := fun _ h => h
  has := (one_bit v v).2 rfl
  rch := fun j hj => by rw [one_bit] at hj; subst hj; exact .refl
  shut := fun a b h1 h2 => by rw [h1] at h2; cases h2
theorem RI.next {R : List Nat} (h : Ok R) {v F T : Nat} (i : RI R v F T) : RI R v (F ||| dif (nx R T) F) (dif (nx R T) F) where
  fF := fit_or i.fF (fit_dif _ (nx_fit h T))
  fT := fit_dif _ (nx_fit h T)
  sub := fun j hj => by rw [Nat.testBit_or, hj, Bool.or_true]
  has := by rw [Nat.testBit_or, i.has, Bool.true_or]
  rch := fun j hj => by
    rw [Nat.testBit_or, Bool.or_eq_true] at hj
    rcases hj with hj | hj
    · exact i.rch j hj
    · rw [dif_bit, Bool.and_eq_true] at hj
      obtain ⟨w, hw, hw2⟩ := (nx_bit i.fT).1 hj.1
      exact (i.rch w (i.sub w hw)).step hw2
  shut := fun a b h1 h2 h3 => by
    rw [Nat.testBit_or, Bool.or_eq_true]
    rw [Nat.testBit_or, h2, Bool.or_false] at h1
    cases hb : F.testBit b with
    | true => exact .inl rfl
    | false =>
      refine .inr ?_
      rw [dif_bit, hb, Bool.not_false, Bool.and_true]
      refine (nx_bit i.fT).2 ⟨a, ?_, h3⟩
      cases ht : T.testBit a with
      | true => rfl
      | false => rw [i.shut a b h1 ht h3] at hb; cases hb
theorem RI.done {R : List Nat} (h : Ok R) {v F : Nat} (hv : v < R.length) (i : RI R v F 0) : F = Dg.rch R v :=
  Dg.rch_of h hv fun j => ⟨i.rch j, closed_has i.has (fun a b h1 h2 => i.shut a b h1 (Nat.zero_testBit a) h2)⟩
def rlft (F T : Nat) : Nat := 2 * (512 - cnt F) + if T = 0 then 0 else 1
theorem RI.less {R : List Nat} (h : Ok R) {F T : Nat} (hT : T ≠ 0) : rlft (F ||| dif (nx R T) F) (dif (nx R T) F) < rlft F T := by
  unfold rlft
  rw [if_neg hT]
  by_cases h0 : dif (nx R T) F = 0
  · rw [if_pos h0, h0]; simp
  · rw [if_neg h0]
    have hlt : cnt F < cnt (F ||| dif (nx R T) F) := by
      obtain ⟨j, hj⟩ := ne_bit h0
      rw [Nat.zero_testBit] at hj
      have hj : (dif (nx R T) F).testBit j = true := by cases hb : (dif (nx R T) F).testBit j with | true => rfl | false => exact absurd hb hj
      have hj2 := hj
      rw [dif_bit, Bool.and_eq_true, Bool.not_eq_true'] at hj2
      refine cnt_lt (x := j) (fun i hi => by rw [Nat.testBit_or, hi, Bool.true_or]) ?_ hj2.2 (by rw [Nat.testBit_or, hj, Bool.or_true])
      rcases Nat.lt_or_ge j 512 with h3 | h3
      · exact h3
      · rw [nx_fit h T j h3] at hj2; cases hj2.1
    have := cnt_le (F ||| dif (nx R T) F)
    omega
end Dg
theorem Box.f8 {w : World} {b : Nat} {cs : Array Value} {t : TypeId} (h : Box w b cs t) : (w.frozen? ⟨b, 0, none⟩ = false ∧ w.frozen? ⟨b, 1, none⟩ = false ∧ w.frozen? ⟨b, 2, none⟩ = false ∧ w.frozen? ⟨b, 3, none⟩ = false ∧ w.frozen? ⟨b, 4, none⟩ = false ∧ w.frozen? ⟨b, 5, none⟩ = false ∧ w.frozen? ⟨b, 6, none⟩ = false ∧ w.frozen? ⟨b, 7, none⟩ = false) := ⟨h.frozen 0, h.frozen 1, h.frozen 2, h.frozen 3, h.frozen 4, h.frozen 5, h.frozen 6, h.frozen 7⟩
theorem Marks.set8 {w : World} {b n B C : Nat} {cs : Array Value} {t : TypeId} {ds : List Deferred} (hM : Marks B C ds w) (hb : Box w b cs t) {Y : World}
    (hY : ((((((((w.setCell ⟨b, 0, none⟩ (.int .u64 (Bs.wd n 0 : Nat))).setCell ⟨b, 1, none⟩ (.int .u64 (Bs.wd n 1 : Nat))).setCell ⟨b, 2, none⟩ (.int .u64 (Bs.wd n 2 : Nat))).setCell ⟨b, 3, none⟩ (.int .u64 (Bs.wd n 3 : Nat))).setCell ⟨b, 4, none⟩ (.int .u64 (Bs.wd n 4 : Nat))).setCell ⟨b, 5, none⟩ (.int .u64 (Bs.wd n 5 : Nat))).setCell ⟨b, 6, none⟩ (.int .u64 (Bs.wd n 6 : Nat))).setCell ⟨b, 7, none⟩ (.int .u64 (Bs.wd n 7 : Nat)) = Y)) : Marks B C ds Y := by
  obtain ⟨Ds, e, hn, hh⟩ := hM
  refine ⟨Ds, e, hn, fun D hD => ⟨(hh D hD).1, (hh D hD).2.1, ?_⟩⟩
  have hne := (hh D hD).2.2.ne_box rfl hb
  rw [← hY]
  exact (((((((((hh D hD).2.2.set_other (p := ⟨b, 0, none⟩) hne _).set_other (p := ⟨b, 1, none⟩) hne _).set_other (p := ⟨b, 2, none⟩) hne _).set_other (p := ⟨b, 3, none⟩) hne _).set_other (p := ⟨b, 4, none⟩) hne _).set_other (p := ⟨b, 5, none⟩) hne _).set_other (p := ⟨b, 6, none⟩) hne _).set_other (p := ⟨b, 7, none⟩) hne _)
theorem Hold.set8 {w : World} {b n D : Nat} {o : Obj} {cs : Array Value} {t : TypeId} (hD : Hold w D o) (ho : o.isCells = false) (hb : Box w b cs t) {Y : World}
    (hY : ((((((((w.setCell ⟨b, 0, none⟩ (.int .u64 (Bs.wd n 0 : Nat))).setCell ⟨b, 1, none⟩ (.int .u64 (Bs.wd n 1 : Nat))).setCell ⟨b, 2, none⟩ (.int .u64 (Bs.wd n 2 : Nat))).setCell ⟨b, 3, none⟩ (.int .u64 (Bs.wd n 3 : Nat))).setCell ⟨b, 4, none⟩ (.int .u64 (Bs.wd n 4 : Nat))).setCell ⟨b, 5, none⟩ (.int .u64 (Bs.wd n 5 : Nat))).setCell ⟨b, 6, none⟩ (.int .u64 (Bs.wd n 6 : Nat))).setCell ⟨b, 7, none⟩ (.int .u64 (Bs.wd n 7 : Nat)) = Y)) : Hold Y D o := by
  have hne := hD.ne_box ho hb
  rw [← hY]
  exact ((((((((hD.set_other (p := ⟨b, 0, none⟩) hne _).set_other (p := ⟨b, 1, none⟩) hne _).set_other (p := ⟨b, 2, none⟩) hne _).set_other (p := ⟨b, 3, none⟩) hne _).set_other (p := ⟨b, 4, none⟩) hne _).set_other (p := ⟨b, 5, none⟩) hne _).set_other (p := ⟨b, 6, none⟩) hne _).set_other (p := ⟨b, 7, none⟩) hne _)
set_option maxHeartbeats 16000000 in
theorem dgReach_ok (bg : Nat) (A : Option Addr) (c : Nat) (R : List Nat) (arcs : Int) (v : Nat) (w : World) (ht : Tab64 w) (h : DG w bg A c R arcs) (hR : Dg.Ok R) (hv : v < R.length) : Calls Tryz.prog 171 #[gp bg, .int .i64 v] w fun e w' => e = .returned (bsv (Dg.rch R v)) ∧ Below w.heap.size w w' := by
  obtain ⟨V, HW, x2, x4, x11, hB, hsV⟩ := boxes3 w #[gp bg] 161 #[.int .u64 0, .int .u64 0, .int .u64 0, .int .u64 0, .int .u64 0, .int .u64 0, .int .u64 0, .int .u64 0] 169 #[.int .i64 (v : Int)] 3
  have HSV := Lib.hid hsV
  have kO := bsOf1_ok (some ⟨w.heap.size + 2, 0, none⟩) 1 v V (Sl.of_box x11 (by simp [flat, icell])) (by have := hR.len; omega)
  have HI := Lib.hid (Dg.RI.start hR hv)
  have hl512 := hR.len
  generalize 2 ^ v = u at *
  have hV := HW.out
  clear hsV
  refine calls_marks Tryz.func171 rfl ?_
  simp only [Tryz.ntmps171, List.size_toArray, List.length_cons, List.length_nil, Nat.reduceAdd, Nat.reduceSub, Array.replicate_succ, Array.replicate_zero, List.push_toArray, List.append_toArray, List.nil_append, List.cons_append]
  go_wp2_with fail
  clear hV
  refine kO.mono ?_
  rintro e w1 ⟨rfl, hb1⟩
  have B1 := after_ hB hb1
  have h21 := x2.below hb1
  have h41 := x4.below hb1
  have hlt1 := h41.lt
  go_wp2_with fail
  obtain ⟨U, HU, u5, u7, hbU, hsU⟩ := boxes2 w1 (bsc u) 169 (bsc u) 169
  have hU := HU.out
  rw [hU]
  clear hU HU
  have BU := after_ B1 hbU
  refine wp_loop_marks [7, 8, 9, 17, 18, 19, 20, 21, 22, 23, 24, 25, 26, 27, 28, 29, 30, 31, 32, 33, 34, 35, 36, 37, 38] (fun m us ds W0 => ∃ (b7 F T : Nat) (j8 j9 j17 j18 j19 j20 j21 j22 j23 j24 j25 j26 j27 j28 j29 j30 j31 j32 j33 j34 j35 j36 j37 j38 : Value), us = [.pointer (some ⟨b7, 0, none⟩), j8, j9, j17, j18, j19, j20, j21, j22, j23, j24, j25, j26, j27, j28, j29, j30, j31, j32, j33, j34, j35, j36, j37, j38] ∧ m = Dg.rlft F T ∧ Below w.heap.size w W0 ∧ Box W0 w.heap.size #[gp bg] 161 ∧ Box W0 (w.heap.size + 1) #[.int .u64 0, .int .u64 0, .int .u64 0, .int .u64 0, .int .u64 0, .int .u64 0, .int .u64 0, .int .u64 0] 169 ∧ Box W0 w1.heap.size (bsc F) 169 ∧ Box W0 b7 (bsc T) 169 ∧ w1.heap.size < b7 ∧ Hid (Dg.RI R v F T) ∧ Marks w.heap.size W0.heap.size ds W0) (Dg.rlft u u) ⟨w1.heap.size + 1, u, u, _, _, _, _, _, _, _, _, _, _, _, _, _, _, _, _, _, _, _, _, _, _, _, _, rfl, rfl, BU, h21.below hbU, h41.below hbU, u5, u7, Nat.lt_succ_self _, HI, Marks.none_⟩ ?_
  clear u5 u7 h21 h41 BU hbU hsU HI
  rintro m us ds W0 ⟨b7, F, T, j8, j9, j17, j18, j19, j20, j21, j22, j23, j24, j25, j26, j27, j28, j29, j30, j31, j32, j33, j34, j35, j36, j37, j38, rfl, rfl, hB0, x2, x4, x5, x7, hb7, HI, hM⟩
  simp only [over, List.zip_cons_cons, List.zip_nil_left, List.foldl_cons, List.foldl_nil, List.setIfInBounds_toArray, List.set_cons_succ, List.set_cons_zero]
  have kE := bsEmpty_ok T HI.out.fT W0
  obtain ⟨d0, d1, d2, d3, d4, d5, d6, d7⟩ := x7.w
  have hDG0 := (h.next hB0)
  by_cases hT : T = 0
  · subst hT
    have HF := Lib.hid (HI.out.done hR hv)
    rw [decide_eq_true rfl] at kE
    go_wp2_with fail
    clear d0 d1 d2 d3 d4 d5 d6 d7
    refine kE.mono ?_
    rintro e w2 ⟨rfl, hb2⟩
    have B2 := after_ hB0 hb2
    have y4 := x4.below hb2
    have y5 := x5.below hb2
    obtain ⟨d0, d1, d2, d3, d4, d5, d6, d7⟩ := y5.w
    obtain ⟨g0, g1, g2, g3, g4, g5, g6, g7⟩ := y4.f8
    obtain ⟨k0, k1, k2, k3, k4, k5, k6, k7⟩ := y4.c8
    obtain ⟨Y, HY, z, hBY, hsY, -⟩ := store8 w2 (w.heap.size + 1) F _ _ y4 rfl
    have hY := HY.out
    go_wp2_with fail
    have hM2 := hM.below hb2
    have hMY := hM2.set8 y4 HY.out
    have BY := hBY w.heap.size w (Nat.le_succ _) B2
    refine leaves_marks (B := w.heap.size) _ _ hMY (fun W' hs => ?_)
    obtain ⟨z0, z1, z2, z3, z4, z5, z6, z7⟩ := (hs.box z).w
    refine ⟨bsv F, ?_, by rw [HF.out], BY.trans hs.below⟩
    simp [results, Tryz.results171, go_sem, z0, z1, z2, z3, z4, z5, z6, z7]
  · rw [decide_eq_false hT] at kE
    go_wp2_with fail
    clear d0 d1 d2 d3 d4 d5 d6 d7
    refine kE.mono ?_
    rintro e w2 ⟨rfl, hb2⟩
    have B2 := after_ hB0 hb2
    have z7 := x7.below hb2
    obtain ⟨X, HX, x8, hbX, hsX⟩ := boxes1 w2 (bsc 0) 169
    have HSX := Lib.hid hsX
    obtain ⟨d0, d1, d2, d3, d4, d5, d6, d7⟩ := (z7.below hbX).w
    have BX := after_ B2 hbX
    have hX := HX.out
    rw [zero8] at hX
    clear hsX
    go_wp2_with fail
    clear hX d0 d1 d2 d3 d4 d5 d6 d7
    refine (bsAll_ok T X).mono ?_
    rintro e w4 ⟨rfl, hb4, hs4, xb⟩
    have B4 := after_ BX hb4
    have y2 := ((x2.below hb2).below hbX).below hb4
    have y4 := ((x4.below hb2).below hbX).below hb4
    have y5 := ((x5.below hb2).below hbX).below hb4
    have y7 := (z7.below hbX).below hb4
    have y8 := x8.below hb4
    have hlt2 : w2.heap.size < X.heap.size := x8.lt
    have hlt7 : b7 < w2.heap.size := z7.lt
    have hM4 := ((hM.below hb2).below hbX).below hb4
    have hX2 : W0.heap.size ≤ w2.heap.size := hb2.size
    clear z7 x2 x4 x5 x7 x8 hDG0 hM
    go_wp2_with fail
    refine wp_range (gf := 123) (lb := #[.pointer (some ⟨X.heap.size, 0, none⟩)]) rfl (enters_of Tryz.func123 (by kernel_rfl) rfl) (bsAll_seq X.heap.size T) (fun _ => rfl)
      (fun pre W => Below w.heap.size w W ∧ Box W w.heap.size #[gp bg] 161 ∧ Box W (w.heap.size + 1) #[.int .u64 0, .int .u64 0, .int .u64 0, .int .u64 0, .int .u64 0, .int .u64 0, .int .u64 0, .int .u64 0] 169 ∧ Box W w1.heap.size (bsc F) 169 ∧ Box W b7 (bsc T) 169 ∧ Box W w2.heap.size (bsc (pre.foldl (fun a x => a ||| Dg.row R x) 0)) 169 ∧ Box W X.heap.size (bsc T) 169 ∧ Marks w.heap.size X.heap.size ds W) (fun _ _ _ => False)
      ?hI (fun _ _ _ _ _ h => h.elim) ?hK ⟨B4, y2, y4, y5, y7, y8, xb, hM4.more (by omega)⟩ ?round ?done (fun _ _ _ h => h.elim)
    case hI => exact fun pre W W' row ⟨h1, h2, h3, h4, h5, h6, h7, h8⟩ hg hr => ⟨below_own h1 B4.size h1.size hg hr, h2.own hg hr, h3.own hg hr, h4.own hg hr, h5.own hg hr, h6.own hg hr, h7.own hg hr, h8.own hb4.size hg hr⟩
    case hK => exact fun pre W ⟨h1, h2, h3, h4, h5, h6, h7, h8⟩ => ⟨h7, ht.kept h1⟩
    case round =>
      intro r' pre x post W hL hl hd hi
      gi_wp2
      refine ⟨hl, hd, hi, fun _ => True, fun _ _ _ _ _ _ _ => trivial, trivial, ?_⟩
      clear hl hd hi
      rintro r'' W2 hl hd ⟨h1, h2, h3, h4, h5, h6, h7, h8⟩ -
      have hxT : T.testBit x = true := (Bs.mem_els HI.out.fT).1 (by rw [hL]; simp)
      have hxR : x < R.length := (HI.out.rch x (HI.out.sub x hxT)).lt hR hv
      have HP : Hid ((pre ++ [x]).foldl (fun a x => a ||| Dg.row R x) 0 = pre.foldl (fun a x => a ||| Dg.row R x) 0 ||| Dg.row R x) := Lib.hid (by rw [List.foldl_append]; rfl)
      clear hL hxT
      have hDG := h.next h1
      obtain ⟨la, hla, hlb, a0, a1, a2, a3, a4, a5, a6, a7⟩ := hDG.rows.bs8 hxR
      obtain ⟨e0, e1, e2⟩ := hDG.box.c3
      rw [row_at hxR] at HP
      generalize pre.foldl (fun a x => a ||| Dg.row R x) 0 = N at *
      generalize (pre ++ [x]).foldl (fun a x => a ||| Dg.row R x) 0 = N' at *
      generalize R[x] = rx at *
      have b0 := h2.c1
      obtain ⟨d0, d1, d2, d3, d4, d5, d6, d7⟩ := h6.w
      have x0 : (0 : Int) ≤ (x : Int) := by omega
      have x1 : (x : Int) < (R.length : Int) := by omega
      have l2 := h2.lt
      have l6 := h6.lt
      have lg := hDG.box.lt
      subst hla
      gi_wp2_with fail
      refine wpIn_region_kept_tail 9 W2.heap.size W2 (by kernel_rfl) (by kernel_rfl) (by kernel_rfl) (Below.refl _ _) ?_
      simp only [List.take_succ_cons, List.take_zero, List.drop_succ_cons, List.drop_zero]
      repeat (go_big_quiet_step ((go_at_call 120; exact Kept.calls (Nat.le_refl _) (bsUnion_ok N rx _))))
      refine wpQuiet_nil ?_
      rintro w6 ⟨⟨_, hb6⟩, rfl⟩
      clear b0 d0 d1 d2 d3 d4 d5 d6 d7 a0 a1 a2 a3 a4 a5 a6 a7 e0 e1 e2
      have B6 := after_ h1 hb6
      have y2 := h2.below hb6
      have y3 := h3.below hb6
      have y4 := h4.below hb6
      have y5 := h5.below hb6
      have y6 := h6.below hb6
      have y7 := h7.below hb6
      have hl6 := hl.below hb6
      have hd6 := hd.below hb6
      have hM6 := h8.below hb6
      obtain ⟨g0, g1, g2, g3, g4, g5, g6, g7⟩ := y6.f8
      obtain ⟨d0, d1, d2, d3, d4, d5, d6, d7⟩ := y6.w
      obtain ⟨Y, HY, z, hBY, hsY, hoY⟩ := store8 w6 w2.heap.size (N ||| rx) _ _ y6 rfl
      have hY := HY.out
      rw [← HP.out] at z
      go_wp2_with fail
      change _ ∧ _ ∧ _
      have hM7 := hM6.set8 y6 HY.out
      have ne2 : w.heap.size ≠ w2.heap.size := by have := B2.size; have := l2; have := HSV.out; have := hB.size; have := hb1.size; omega
      exact ⟨hl6.set8 rfl y6 HY.out, hd6.set8 rfl y6 HY.out, hBY _ _ B2.size B6, hoY _ _ _ (by have := hb1.size; have := HSV.out; omega) y2, hoY _ _ _ (by have := hb1.size; have := HSV.out; omega) y3, hoY _ _ _ (by omega) y4, hoY _ _ _ (by omega) y5, z, hoY _ _ _ (by omega) y7, hM7⟩
    case done =>
      rintro W ⟨h1, h2, h3, h4, h5, h6, h7, h8⟩ hD
      have HN := Lib.hid (HI.out.next hR)
      have HLE := Lib.hid (Dg.RI.less (F := F) hR hT)
      have e1 : (Bs.els T 0).foldl (fun a x => a ||| Dg.row R x) 0 = Dg.nx R T := rfl
      rw [e1] at h6
      clear e1 HI
      generalize Dg.nx R T = N at *
      obtain ⟨d0, d1, d2, d3, d4, d5, d6, d7⟩ := h6.w
      obtain ⟨c0, c1, c2, c3, c4, c5, c6, c7⟩ := h4.w
      go_wp2_with fail
      clear d0 d1 d2 d3 d4 d5 d6 d7 c0 c1 c2 c3 c4 c5 c6 c7
      refine (bsMinus_ok N F W).mono ?_
      rintro e w5 ⟨rfl, hb5⟩
      have B5 := after_ h1 hb5
      have y4 := h4.below hb5
      have y5 := h5.below hb5
      obtain ⟨g0, g1, g2, g3, g4, g5, g6, g7⟩ := y5.f8
      obtain ⟨d0, d1, d2, d3, d4, d5, d6, d7⟩ := y5.w
      obtain ⟨Y, HY, z, hBY, hsY, hoY⟩ := store8 w5 b7 (Bs.dif N F) _ _ y5 rfl
      obtain ⟨z0, z1, z2, z3, z4, z5, z6, z7⟩ := z.w
      have y4Y := hoY _ _ _ (by omega) y4
      obtain ⟨c0, c1, c2, c3, c4, c5, c6, c7⟩ := y4Y.w
      have hY := HY.out
      go_wp2_with fail
      clear d0 d1 d2 d3 d4 d5 d6 d7 c0 c1 c2 c3 c4 c5 c6 c7 z0 z1 z2 z3 z4 z5 z6 z7 g0 g1 g2 g3 g4 g5 g6 g7
      have BY := hBY w.heap.size w (by omega) B5
      refine (bsUnion_ok F (Bs.dif N F) Y).mono ?_
      rintro e w7 ⟨rfl, hb7'⟩
      have B7 := after_ BY hb7'
      have v4 := y4Y.below hb7'
      have v5 := z.below hb7'
      obtain ⟨g0, g1, g2, g3, g4, g5, g6, g7⟩ := v4.f8
      obtain ⟨d0, d1, d2, d3, d4, d5, d6, d7⟩ := v4.w
      obtain ⟨Y2, HY2, zz, hBY2, hsY2, hoY2⟩ := store8 w7 w1.heap.size (F ||| Bs.dif N F) _ _ v4 rfl
      have v5Y := hoY2 _ _ _ (by omega) v5
      obtain ⟨c0, c1, c2, c3, c4, c5, c6, c7⟩ := v5Y.w
      obtain ⟨X2, HX2, q7, hbX2, hsX2⟩ := boxes1 Y2 (bsc (Bs.dif N F)) 169
      have hY2 := HY2.out
      have BY2 := hBY2 w.heap.size w B1.size B7
      clear hsX2
      go_wp2_with fail
      have hX2 := HX2.out
      rw [hX2]
      have hM2 := ((((h8.below hb5).set8 y5 HY.out).below hb7').set8 v4 HY2.out)
      have hMD := (((hD.below hb5).set8 rfl y5 HY.out).below hb7').set8 rfl v4 HY2.out
      have h21 := hoY2 _ _ _ (by have := hb1.size; have := HSV.out; omega) ((hoY _ _ _ (by have := hb1.size; have := HSV.out; omega) (h2.below hb5)).below hb7')
      have h31 := hoY2 _ _ _ (by have := hb1.size; have := HSV.out; omega) ((hoY _ _ _ (by have := hb1.size; have := HSV.out; omega) (h3.below hb5)).below hb7')
      have hs7 : X.heap.size + 1 ≤ Y2.heap.size := by rw [hsY2]; have := hb7'.size; rw [hsY] at this; have := hb5.size; have := h7.lt; omega
      have hDl := hMD.lt
      rw [hs4] at hMD
      have hMf := (hM2.cons (C := X.heap.size) (D := X.heap.size + 1) (Nat.le_trans BX.size (Nat.le_succ _)) (Nat.le_succ _) hMD)
      rw [hsY2] at q7
      exact ⟨rfl, Dg.rlft (F ||| Bs.dif N F) (Bs.dif N F), HLE.out, w7.heap.size, F ||| Bs.dif N F, Bs.dif N F, _, _, _, _, _, _, _, _, _, _, _, _, _, _, _, _, _, _, _, _, _, _, _, _, rfl, rfl, after_ BY2 hbX2, h21.below hbX2, h31.below hbX2, zz.below hbX2, q7, by have := v4.lt; omega, HN, (hMf.below hbX2).more (by have := hbX2.size; omega)⟩
end Go.Proofs.YtpkepgcmifdpfaaGreatDoor
end

section
namespace Go.Proofs.YtpkepgcmifdpfaaGreatDoor
open Go Go.RowKit
set_option maxRecDepth 100000
def rchs (R : List Nat) : List Nat := (List.range R.length).map (Dg.rch R)
theorem rchs_len (R : List Nat) : (rchs R).length = R.length := by simp [rchs]
theorem own8 {w : World} {base g n : Nat} {cs : List Nat} (h : w.ownsRow base 169 8 (.slice (some ⟨g, 0, none⟩) n n) n (flat 8 bscell cs)) {k : Nat} (hk : k < cs.length) :
    ∃ r, w.cell? ⟨g, k * 8, none⟩ = some (.int .u64 (Bs.wd r 0 : Nat)) ∧ w.cell? ⟨g, k * 8 + 1, none⟩ = some (.int .u64 (Bs.wd r 1 : Nat)) ∧ w.cell? ⟨g, k * 8 + 2, none⟩ = some (.int .u64 (Bs.wd r 2 : Nat)) ∧ w.cell? ⟨g, k * 8 + 3, none⟩ = some (.int .u64 (Bs.wd r 3 : Nat)) ∧ w.cell? ⟨g, k * 8 + 4, none⟩ = some (.int .u64 (Bs.wd r 4 : Nat)) ∧ w.cell? ⟨g, k * 8 + 5, none⟩ = some (.int .u64 (Bs.wd r 5 : Nat)) ∧ w.cell? ⟨g, k * 8 + 6, none⟩ = some (.int .u64 (Bs.wd r 6 : Nat)) ∧ w.cell? ⟨g, k * 8 + 7, none⟩ = some (.int .u64 (Bs.wd r 7 : Nat)) ∧
      w.frozen? ⟨g, k * 8, none⟩ = false ∧ w.frozen? ⟨g, k * 8 + 1, none⟩ = false ∧ w.frozen? ⟨g, k * 8 + 2, none⟩ = false ∧ w.frozen? ⟨g, k * 8 + 3, none⟩ = false ∧ w.frozen? ⟨g, k * 8 + 4, none⟩ = false ∧ w.frozen? ⟨g, k * 8 + 5, none⟩ = false ∧ w.frozen? ⟨g, k * 8 + 6, none⟩ = false ∧ w.frozen? ⟨g, k * 8 + 7, none⟩ = false := by
  have h2 := fun j (hj : j < 8) => own_at h hk hj
  exact ⟨cs[k], (h2 0 (by decide)).1, (h2 1 (by decide)).1, (h2 2 (by decide)).1, (h2 3 (by decide)).1, (h2 4 (by decide)).1, (h2 5 (by decide)).1, (h2 6 (by decide)).1, (h2 7 (by decide)).1, (h2 0 (by decide)).2, (h2 1 (by decide)).2, (h2 2 (by decide)).2, (h2 3 (by decide)).2, (h2 4 (by decide)).2, (h2 5 (by decide)).2, (h2 6 (by decide)).2, (h2 7 (by decide)).2⟩
theorem below_run8 {w0 w : World} {B g k : Nat} (hB : Below B w0 w) (hg : B ≤ g) (v0 v1 v2 v3 v4 v5 v6 v7 : Value) : Below B w0 ((((((((w.setCell ⟨g, k, none⟩ v0).setCell ⟨g, k + 1, none⟩ v1).setCell ⟨g, k + 2, none⟩ v2).setCell ⟨g, k + 3, none⟩ v3).setCell ⟨g, k + 4, none⟩ v4).setCell ⟨g, k + 5, none⟩ v5).setCell ⟨g, k + 6, none⟩ v6).setCell ⟨g, k + 7, none⟩ v7) :=
  (((((((hB.setCell (p := ⟨g, k, none⟩) hg _).setCell (p := ⟨g, k + 1, none⟩) hg _).setCell (p := ⟨g, k + 2, none⟩) hg _).setCell (p := ⟨g, k + 3, none⟩) hg _).setCell (p := ⟨g, k + 4, none⟩) hg _).setCell (p := ⟨g, k + 5, none⟩) hg _).setCell (p := ⟨g, k + 6, none⟩) hg _).setCell (p := ⟨g, k + 7, none⟩) hg _
set_option maxHeartbeats 16000000 in
theorem dgReaches_ok (bg : Nat) (A : Option Addr) (c : Nat) (R : List Nat) (arcs : Int) (w : World) (ht : Tab64 w) (h : DG w bg A c R arcs) (hR : Dg.Ok R) : Calls Tryz.prog 160 #[gp bg] w (RetS 8 bscell w (rchs R)) := by
  obtain ⟨i8, hi8, hz0, hz1, hz2⟩ := info_parts bsInfo
  have Hi := Lib.hid hi8; have Hz0 := Lib.hid hz0; have Hz1 := Lib.hid hz1; have Hz2 := Lib.hid hz2
  clear hi8 hz0 hz1 hz2
  have kL := dgLen_ok bg A c R arcs w h
  have hl := hR.len
  obtain ⟨n, hn⟩ : ∃ n, R.length = n := ⟨_, rfl⟩
  have HN := Lib.hid hn
  rw [hn] at kL hl
  clear hn
  go_enter Tryz.func160, Tryz.ntmps160
  go_wp2_with fail
  refine kL.mono ?_
  rintro e w1 ⟨rfl, rfl⟩
  go_wp2_with (at_make; refine wpList_make_full _ rfl _ _ 213 rfl w.heap.size 169 i8 _ 8 Tryz.underlying213 Hi.out Hz0.out Hz1.out .i64 .i64 _ _ n rfl rfl rfl rfl (by rw [Hz2.out]; omega) (by unfold maxLen; omega) (Nat.le_refl _) ?_; intro w2 hown2 hg2)
  have em := made_flat (cell := bscell) (size := 8) (x0 := 0) (by decide) (Value.agg #[.int .u64 0, .int .u64 0, .int .u64 0, .int .u64 0, .int .u64 0, .int .u64 0, .int .u64 0, .int .u64 0]).cells (by simp [Value.cells, bscell0, List.range_succ]) n
  rw [em] at hown2
  clear em
  have hb2 : Below w.heap.size w w2 := (Below.refl _ _).grown hg2 (Nat.le_refl _) (by simp)
  have e0 : List.replicate n 0 = mixTo (Dg.rch R) (fun _ => 0) (List.range n) 0 := by rw [mixTo_zero, List.map_const', List.length_range]
  rw [e0] at hown2
  clear e0 kL
  go_loopw [4, 10] (fun _ i wr => ∃ k : Nat, k ≤ n ∧ i = .int .i64 k ∧ Below w.heap.size w wr ∧ wr.ownsRow w.heap.size 169 8 (.slice (some ⟨w.heap.size, 0, none⟩) n n) n (flat 8 bscell (mixTo (Dg.rch R) (fun _ => 0) (List.range n) k))) (fun _ i _ => n - (intOf i).toNat)
  case atStart => exact ⟨0, Nat.zero_le _, rfl, hb2, hown2⟩
  case round =>
    clear hown2 hb2 hg2
    obtain ⟨k, hk, rfl, hBr, hown⟩ := hrel
    by_cases hlt : k < n
    · have kR := dgReach_ok bg A c R arcs k wr (ht.kept hBr) (h.next hBr) hR (by rw [HN.out]; exact hlt)
      have hlk : k < (mixTo (Dg.rch R) (fun _ => 0) (List.range n) k).length := by rw [mixTo_length, List.length_range]; exact hlt
      have HPT : Hid (∀ w' : World, w'.ownsRow w.heap.size 169 8 (.slice (some ⟨w.heap.size, 0, none⟩) n n) n (flat 8 bscell (mixTo (Dg.rch R) (fun _ => 0) (List.range n) k)) → (setRun w' w.heap.size (k * 8) ((List.range 8).map (bscell (Dg.rch R k)))).ownsRow w.heap.size 169 8 (.slice (some ⟨w.heap.size, 0, none⟩) n n) n (flat 8 bscell (mixTo (Dg.rch R) (fun _ => 0) (List.range n) (k + 1)))) := Lib.hid (fun w' ho => by
        have h1 := own_put (by decide) ho hlk (Dg.rch R k)
        have e1 := mixTo_succ (h := Dg.rch R) (f := fun _ => 0) (xs := List.range n) (k := k) (by rw [List.length_range]; exact hlt)
        rw [List.getElem_range] at e1
        rwa [e1] at h1)
      have x0 : (0 : Int) ≤ (k : Int) := by omega
      have x1 : (k : Int) < (n : Int) := by omega
      have q0 : decide ((k : Int) < (n : Int)) = true := decide_eq_true x1
      generalize Dg.rch R k = rk at *
      go_wp2_with fail
      refine kR.mono ?_
      rintro e w5 ⟨rfl, hb5⟩
      have B5 := after_ hBr hb5
      have hown5 := own_below hown hb5
      obtain ⟨r, a0, a1, a2, a3, a4, a5, a6, a7, f0, f1, f2, f3, f4, f5, f6, f7⟩ := own8 hown5 hlk
      have hput := HPT.out w5 hown5
      clear HPT kR
      go_wp2_with fail
      have hbw := below_run8 (k := k * 8) B5 (Nat.le_refl _) (.int .u64 (Bs.wd rk 0 : Nat)) (.int .u64 (Bs.wd rk 1 : Nat)) (.int .u64 (Bs.wd rk 2 : Nat)) (.int .u64 (Bs.wd rk 3 : Nat)) (.int .u64 (Bs.wd rk 4 : Nat)) (.int .u64 (Bs.wd rk 5 : Nat)) (.int .u64 (Bs.wd rk 6 : Nat)) (.int .u64 (Bs.wd rk 7 : Nat))
      go_roundw
      case rel => exact ⟨k + 1, hlt, by go_num, hbw, hput⟩
      case measure => simp [intOf]; omega
    · obtain rfl : k = n := by omega
      have q0 : decide ((k : Int) < (k : Int)) = false := decide_eq_false (by omega)
      have e1 : mixTo (Dg.rch R) (fun _ => 0) (List.range k) k = rchs R := by
        have := mixTo_all (h := Dg.rch R) (f := fun _ => 0) (xs := List.range k)
        rw [List.length_range] at this
        rw [this]
        unfold rchs
        rw [HN.out]
      rw [e1] at hown
      clear e1
      have hs := Sl.of_own (by decide) hown
      have hlr : (rchs R).length = k := by rw [rchs_len, HN.out]
      have HLR := Lib.hid hlr
      clear hlr
      go_wp2_with fail
      go_ret
      exact ⟨some ⟨w.heap.size, 0, none⟩, k, by rw [HLR.out]; rfl, hs, hBr⟩
end Go.Proofs.YtpkepgcmifdpfaaGreatDoor
end

section
namespace Go.Proofs.YtpkepgcmifdpfaaGreatDoor
open Go Go.RowKit
set_option maxRecDepth 100000
namespace Dg
open Bs
def lds (R : List Nat) (k : Nat) : List Nat := (List.range k).filter (lead R)
theorem lds_all (R : List Nat) : lds R R.length = leads R := rfl
theorem lds_yes {R : List Nat} {k : Nat} (h : lead R k = true) : lds R (k + 1) = lds R k ++ [k] := by
  unfold lds; rw [List.range_succ, List.filter_append, List.filter_cons_of_pos h]; rfl
theorem lds_no {R : List Nat} {k : Nat} (h : lead R k = false) : lds R (k + 1) = lds R k := by
  unfold lds; rw [List.range_succ, List.filter_append, List.filter_cons_of_neg (by simp [h])]; simp
theorem mem_lds {R : List Nat} {k u : Nat} : u ∈ lds R k ↔ u < k ∧ lead R u = true := by unfold lds; rw [List.mem_filter]; simp
theorem lds_len (R : List Nat) (k : Nat) : (lds R k).length ≤ k := by
  unfold lds; exact Nat.le_trans (List.length_filter_le _ _) (by simp)
theorem seen_lead {R : List Nat} (h : Ok R) {k : Nat} (hk : k < R.length) : (uni R (lds R k)).testBit k = !lead R k := by
  rw [Bool.eq_iff_iff, uni_bit]
  constructor
  · rintro ⟨u, hu, hb⟩
    obtain ⟨h1, h2⟩ := mem_lds.1 hu
    have hs := (scc_bit h (by omega) k).1 hb
    cases hl : lead R k with
    | false => rfl
    | true => have := (lead_iff h hk).1 hl u hs.symm; omega
  · intro hl
    obtain ⟨u, hu, hs, hle⟩ := has_lead h hk
    obtain ⟨h1, h2⟩ := mem_leads.1 hu
    refine ⟨u, mem_lds.2 ⟨?_, h2⟩, (scc_bit h h1 k).2 hs⟩
    rcases Nat.lt_or_eq_of_le hle with h3 | h3
    · exact h3
    · subst h3; rw [h2] at hl; cases hl
def ptf (R : List Nat) (k : Nat) (l : List Nat) : Nat := l.foldl (fun a w => if (rch R w).testBit k = true then a ||| 2 ^ w else a) 0
theorem ptf_snoc (R : List Nat) (k : Nat) (l : List Nat) (w : Nat) : ptf R k (l ++ [w]) = if (rch R w).testBit k = true then ptf R k l ||| 2 ^ w else ptf R k l := by unfold ptf; rw [List.foldl_append]; rfl
theorem ptf_bit (R : List Nat) (k j : Nat) : ∀ (l : List Nat) (a : Nat), (l.foldl (fun a w => if (rch R w).testBit k = true then a ||| 2 ^ w else a) a).testBit j = true ↔ a.testBit j = true ∨ (j ∈ l ∧ (rch R j).testBit k = true)
  | [], a => by simp
  | x :: l, a => by
    rw [List.foldl_cons, ptf_bit R k j l]
    by_cases hx : (rch R x).testBit k = true
    · rw [if_pos hx, Nat.testBit_or, Bool.or_eq_true, one_bit]
      constructor
      · rintro ((h | h) | ⟨h1, h2⟩)
        · exact .inl h
        · subst h; exact .inr ⟨by simp, hx⟩
        · exact .inr ⟨by simp [h1], h2⟩
      · rintro (h | ⟨h1, h2⟩)
        · exact .inl (.inl h)
        · rcases List.mem_cons.1 h1 with e | h1
          · exact .inl (.inr e.symm)
          · exact .inr ⟨h1, h2⟩
    · rw [if_neg hx]
      constructor
      · rintro (h | ⟨h1, h2⟩)
        · exact .inl h
        · exact .inr ⟨by simp [h1], h2⟩
      · rintro (h | ⟨h1, h2⟩)
        · exact .inl h
        · rcases List.mem_cons.1 h1 with e | h1
          · subst e; exact absurd h2 hx
          · exact .inr ⟨h1, h2⟩
theorem ptf_all {R : List Nat} (h : Ok R) {k : Nat} (hk : k < R.length) : ptf R k (els (rch R k) 0) = scc R k := by
  apply ext_bit
  intro j
  rw [Bool.eq_iff_iff, scc_bit h hk]
  unfold ptf
  rw [ptf_bit, mem_els (rch_fit h hk), rch_bit h hk]
  constructor
  · rintro (h1 | ⟨h1, h2⟩)
    · rw [Nat.zero_testBit] at h1; cases h1
    · exact ⟨h1, (rch_bit h (h1.lt h hk) k).1 h2⟩
  · rintro ⟨h1, h2⟩
    exact .inr ⟨h1, (rch_bit h (h1.lt h hk) k).2 h2⟩
def fix (R : List Nat) (k j : Nat) : Int := if ((lds R k).any fun u => (scc R u).testBit j) = true then (((lds R k).findIdx fun u => (scc R u).testBit j : Nat) : Int) else 0
theorem fix_zero (R : List Nat) (j : Nat) : fix R 0 j = 0 := rfl
theorem fix_no {R : List Nat} {k : Nat} (h : lead R k = false) (j : Nat) : fix R (k + 1) j = fix R k j := by unfold fix; rw [lds_no h]
theorem fix_yes {R : List Nat} (h : Ok R) {k : Nat} (hk : k < R.length) (hl : lead R k = true) (j : Nat) : fix R (k + 1) j = if (scc R k).testBit j = true then ((lds R k).length : Int) else fix R k j := by
  unfold fix
  rw [lds_yes hl, List.any_append]
  by_cases hj : (scc R k).testBit j = true
  · rw [if_pos hj]
    have hno : ∀ u ∈ lds R k, (scc R u).testBit j = false := fun u hu => by
      obtain ⟨h1, h2⟩ := mem_lds.1 hu
      cases hb : (scc R u).testBit j with
      | false => rfl
      | true =>
        have hs := ((scc_bit h hk j).1 hj).trans ((scc_bit h (by omega) j).1 hb).symm
        have := (lead_iff h hk).1 hl u hs
        omega
    have h1 : ((lds R k).findIdx fun u => (scc R u).testBit j) = (lds R k).length := List.findIdx_eq_length.2 hno
    rw [if_pos (by simp [hj]), List.findIdx_append, h1, if_neg (by omega)]
    simp [List.findIdx_cons, hj]
  · rw [if_neg hj]
    have e : ([k].any fun u => (scc R u).testBit j) = false := by simp [hj]
    rw [e, Bool.or_false]
    split
    · rename_i ha
      obtain ⟨u, hu, hb⟩ := List.any_eq_true.1 ha
      have : ((lds R k).findIdx fun u => (scc R u).testBit j) < (lds R k).length := List.findIdx_lt_length.2 ⟨u, hu, hb⟩
      rw [List.findIdx_append, if_pos this]
    · rfl
theorem fix_all {R : List Nat} (h : Ok R) {j : Nat} (hj : j < R.length) : fix R R.length j = (pidx R j : Int) := by
  unfold fix pidx
  rw [lds_all, if_pos]
  obtain ⟨u, hu, hs, -⟩ := has_lead h hj
  exact List.any_eq_true.2 ⟨u, hu, (scc_bit h (mem_leads.1 hu).1 j).2 hs⟩
def fixp (R : List Nat) (k p j : Nat) : Int := if p.testBit j = true then ((lds R k).length : Int) else fix R k j
theorem fixp_zero (R : List Nat) (k j : Nat) : fixp R k 0 j = fix R k j := by unfold fixp; rw [Nat.zero_testBit]; rfl
theorem fixp_step (R : List Nat) (k p w j : Nat) : fixp R k (p ||| 2 ^ w) j = if j = w then ((lds R k).length : Int) else fixp R k p j := by
  unfold fixp
  rw [Nat.testBit_or, Nat.testBit_two_pow]
  by_cases e : j = w
  · subst e; simp
  · rw [if_neg e]; simp [Ne.symm e]
end Dg
theorem Hold.ne_own0 {w : World} {D : Nat} {o : Obj} (h : Hold w D o) (ho : o.isCells = false) {base : Nat} {e : TypeId} {size g n c i : Nat} {xs : List Value} (hown : w.ownsRow base e size (.slice (some ⟨g, 0, none⟩) n c) n xs) : D ≠ (⟨g, i, none⟩ : Addr).block := fun e => by
  have := h.ne_own ho hown
  exact this (by rw [e]; rfl)
theorem Marks.set_own {w : World} {B C : Nat} {ds : List Deferred} (hM : Marks B C ds w) {base : Nat} {e : TypeId} {size g n c i : Nat} {xs : List Value} (hown : w.ownsRow base e size (.slice (some ⟨g, 0, none⟩) n c) n xs) (v : Value) : Marks B C ds (w.setCell ⟨g, i, none⟩ v) := by
  obtain ⟨Ds, e, hn, hh⟩ := hM
  exact ⟨Ds, e, hn, fun D hD => ⟨(hh D hD).1, (hh D hD).2.1, (hh D hD).2.2.set_other ((hh D hD).2.2.ne_own0 rfl hown) v⟩⟩
theorem intInfoD : (Tryz.prog.info? 3).map (fun i => (i.zero, i.size, i.bytes)) = some (some (.int .i64 0), 1, 8) := by kernel_rfl
structure PS (w1 W : World) (n : Nat) (A1 : Option Addr) (c1 : Nat) (v5 : Value) (g6 b6 : Nat) (L : List Nat) (f : Nat → Int) (S : Nat) : Prop where
  bel : Below w1.heap.size w1 W
  x4 : Box W w1.heap.size #[.slice A1 n c1] 213
  x5 : Box W (w1.heap.size + 1) #[v5] 213
  o5 : W.ownsRow (b6 + 2) 169 8 v5 L.length (flat 8 bscell L)
  x6 : Box W b6 #[.slice (some ⟨g6, 0, none⟩) n n] 29
  o6 : W.ownsRow w1.heap.size 3 1 (.slice (some ⟨g6, 0, none⟩) n n) n (flat 1 icell (Dg.fl n f))
  x7 : Box W (b6 + 1) (bsc S) 169
section
variable {w1 W W' : World} {n : Nat} {A1 : Option Addr} {c1 : Nat} {v5 : Value} {g6 b6 : Nat} {L : List Nat} {f : Nat → Int} {S : Nat}
theorem PS.next (h : PS w1 W n A1 c1 v5 g6 b6 L f S) (hb : Below W.heap.size W W') : PS w1 W' n A1 c1 v5 g6 b6 L f S :=
  ⟨after_ h.bel hb, h.x4.below hb, h.x5.below hb, own_below h.o5 hb, h.x6.below hb, own_below h.o6 hb, h.x7.below hb⟩
theorem PS.own {row : Option Nat} {B : Nat} (h : PS w1 W n A1 c1 v5 g6 b6 L f S) (hB : w1.heap.size ≤ B) (hg : W.grownBy W' row) (hr : ∀ r, row = some r → B ≤ r ∧ ∃ o : Obj, W.heap[r]? = some o ∧ o.isCells = false) : PS w1 W' n A1 c1 v5 g6 b6 L f S :=
  ⟨below_own h.bel hB h.bel.size hg hr, h.x4.own hg hr, h.x5.own hg hr, row_own h.o5 hg hr, h.x6.own hg hr, row_own h.o6 hg hr, h.x7.own hg hr⟩
theorem PS.far {b : Nat} (h : PS w1 W n A1 c1 v5 g6 b6 L f S) (hg : W.grownBy W' (some b)) (hb : b6 + 2 ≤ b) (h5 : v5.ownBlock ≠ some b) (h6 : g6 ≠ b) (hB : w1.heap.size ≤ b6) : PS w1 W' n A1 c1 v5 g6 b6 L f S :=
  ⟨h.bel.grown hg h.bel.size (fun k e => by cases e; omega), h.x4.grown hg (fun e => by have := Option.some.inj e; omega), h.x5.grown hg (fun e => by have := Option.some.inj e; have := h.x5.lt; have h1 := h.x6.lt; have h2 := h.x7.lt; omega), h.o5.kept hg (.inr h5), h.x6.grown hg (fun e => by have := Option.some.inj e; omega), h.o6.kept hg (.inr (fun e => h6 (Option.some.inj e))), h.x7.grown hg (fun e => by have := Option.some.inj e; omega)⟩
theorem PS.set6 (h : PS w1 W n A1 c1 v5 g6 b6 L f S) (hs : w1.heap.size + 2 ≤ g6 ∧ g6 < b6) {x : Nat} (hx : x < n) (y : Int) : PS w1 (W.setCell ⟨g6, x, none⟩ (.int .i64 y)) n A1 c1 v5 g6 b6 L (fun j => if j = x then y else f j) S := by
  refine ⟨h.bel.setCell (p := ⟨g6, x, none⟩) (by dsimp only; omega) _, h.x4.set_other (by dsimp only; omega) _, h.x5.set_other (by dsimp only; omega) _, h.o5.kept (grown_set W g6 x _) (.inr (fun e => by have := (h.o5.lt _ e).1; omega)), h.x6.set_other (by dsimp only; omega) _, ?_, h.x7.set_other (by dsimp only; omega) _⟩
  have h3 := own_set (size := 1) (cell := icell) h.o6 (k := x) (by rw [Dg.fl_len]; exact hx) (j := 0) (y := y) (u := .int .i64 y) (by decide) rfl (fun j' h1 h2 => absurd h1 (by omega))
  rw [Nat.mul_one, Nat.add_zero, Dg.fl_set] at h3
  exact h3
theorem PS.at6 (h : PS w1 W n A1 c1 v5 g6 b6 L f S) {x : Nat} (hx : x < n) : W.cell? ⟨g6, x, none⟩ = some (.int .i64 (f x)) ∧ W.frozen? ⟨g6, x, none⟩ = false := by
  have := own_at h.o6 (k := x) (j := 0) (by rw [Dg.fl_len]; exact hx) (by decide)
  rw [Nat.mul_one, Nat.add_zero] at this
  refine ⟨this.1.trans ?_, this.2⟩
  rw [Dg.fl_at]
  rfl
theorem PS.set7 (h : PS w1 W n A1 c1 v5 g6 b6 L f S) (hs : w1.heap.size + 2 ≤ g6 ∧ g6 < b6) {m : Nat} {Y : World} (hg : W.grownBy Y (some (b6 + 1))) (z : Box Y (b6 + 1) (bsc m) 169) : PS w1 Y n A1 c1 v5 g6 b6 L f m :=
  ⟨h.bel.grown hg h.bel.size (fun k e => by cases e; omega), h.x4.grown hg (fun e => by have := Option.some.inj e; omega), h.x5.grown hg (fun e => by have := Option.some.inj e; omega), h.o5.kept hg (.inr (fun e => by have := (h.o5.lt _ e).1; omega)), h.x6.grown hg (fun e => by have := Option.some.inj e; omega), h.o6.kept hg (.inr (fun e => by have e2 : g6 = b6 + 1 := Option.some.inj e; omega)), z⟩
theorem PS.push (h : PS w1 W n A1 c1 v5 g6 b6 L f S) (hs : w1.heap.size + 2 ≤ g6 ∧ g6 < b6) {y : Nat} {v' : Value} (ho : W'.ownsRow (b6 + 2) 169 8 v' (L.length + 1) (flat 8 bscell (L ++ [y]))) (hg : W.grownBy W' v5.ownBlock) : PS w1 (W'.setCell ⟨w1.heap.size + 1, 0, none⟩ v') n A1 c1 v' g6 b6 (L ++ [y]) f S := by
  have hne : ∀ b, b < b6 + 2 → some b ≠ v5.ownBlock := fun b hb e => by have := (h.o5.lt b e.symm).1; omega
  refine ⟨(h.bel.grown hg h.bel.size (fun k e => by have := (h.o5.lt k e).1; omega)).setCell (p := ⟨w1.heap.size + 1, 0, none⟩) (Nat.le_succ _) _, (h.x4.grown hg (hne _ (by omega))).set_other (by dsimp only; omega) _, (h.x5.grown hg (hne _ (by omega))).set 0 _, ?_, (h.x6.grown hg (hne _ (by omega))).set_other (by dsimp only; omega) _, ?_, (h.x7.grown hg (hne _ (by omega))).set_other (by dsimp only; omega) _⟩
  · have := ownsRow_setCell_below ho (a := ⟨w1.heap.size + 1, 0, none⟩) (by show w1.heap.size + 1 < b6 + 2; omega) v'
    rwa [List.length_append]
  · exact (h.o6.kept hg (.inr (hne g6 (by omega)))).kept (grown_set W' (w1.heap.size + 1) 0 v') (.inr (fun e => by have e2 : g6 = w1.heap.size + 1 := Option.some.inj e; omega))
theorem grown8 {w Y : World} {b m : Nat}
    (hY : ((((((((w.setCell ⟨b, 0, none⟩ (.int .u64 (Bs.wd m 0 : Nat))).setCell ⟨b, 1, none⟩ (.int .u64 (Bs.wd m 1 : Nat))).setCell ⟨b, 2, none⟩ (.int .u64 (Bs.wd m 2 : Nat))).setCell ⟨b, 3, none⟩ (.int .u64 (Bs.wd m 3 : Nat))).setCell ⟨b, 4, none⟩ (.int .u64 (Bs.wd m 4 : Nat))).setCell ⟨b, 5, none⟩ (.int .u64 (Bs.wd m 5 : Nat))).setCell ⟨b, 6, none⟩ (.int .u64 (Bs.wd m 6 : Nat))).setCell ⟨b, 7, none⟩ (.int .u64 (Bs.wd m 7 : Nat)) = Y)) : w.grownBy Y (some b) := by
  rw [← hY]
  exact (((((((grown_set w b 0 _).trans (grown_set _ b 1 _)).trans (grown_set _ b 2 _)).trans (grown_set _ b 3 _)).trans (grown_set _ b 4 _)).trans (grown_set _ b 5 _)).trans (grown_set _ b 6 _)).trans (grown_set _ b 7 _)
end
set_option maxHeartbeats 32000000 in
theorem dgParts_ok (bg : Nat) (A : Option Addr) (c : Nat) (R : List Nat) (arcs : Int) (w : World) (ht : Tab64 w) (h : DG w bg A c R arcs) (hR : Dg.Ok R) : Calls Tryz.prog 153 #[gp bg] w fun e w' => ∃ A1 c1 A2 c2, e = .returned (.tuple #[.slice A1 (Dg.parts R).length c1, .slice A2 R.length c2]) ∧ Sl 8 bscell w' w'.heap.size A1 (Dg.parts R) ∧ Sl 1 icell w' w'.heap.size A2 (Dg.fl R.length fun j => Dg.pidx R j) ∧ Below w.heap.size w w' := by
  obtain ⟨i8, hi8, hz0, hz1, hz2⟩ := info_parts bsInfo
  have Hi8 := Lib.hid hi8; have Hz08 := Lib.hid hz0; have Hz18 := Lib.hid hz1; have Hz28 := Lib.hid hz2
  clear hi8 hz0 hz1 hz2
  obtain ⟨i0, hi0, hz0, hz1, hz2⟩ := info_parts intInfoD
  have Hi := Lib.hid hi0; have Hz0 := Lib.hid hz0; have Hz1 := Lib.hid hz1; have Hz2 := Lib.hid hz2
  clear hi0 hz0 hz1 hz2
  have kR := dgReaches_ok bg A c R arcs w ht h hR
  refine calls_marks Tryz.func153 rfl ?_
  simp only [Tryz.ntmps153, List.size_toArray, List.length_cons, List.length_nil, Nat.reduceAdd, Nat.reduceSub, Array.replicate_succ, Array.replicate_zero, List.push_toArray, List.append_toArray, List.nil_append, List.cons_append]
  go_wp2_with fail
  refine kR.mono ?_
  rintro e w1 ⟨A1, c1, rfl, hS1, hb1⟩
  clear kR
  rw [rchs_len]
  have hl := hR.len
  obtain ⟨n, hn⟩ : ∃ n, R.length = n := ⟨_, rfl⟩
  have HN := Lib.hid hn
  rw [hn] at hl ⊢
  clear hn
  obtain ⟨U, HU, x4, x5, hbU, hsU⟩ := boxes2 w1 #[.slice A1 n c1] 213 #[.slice none 0 0] 213
  have hU := HU.out
  have HSU := Lib.hid hsU
  have c4 := x4.c1
  clear hsU
  go_wp2_with (at_make; refine wpList_make_full _ rfl _ _ 29 rfl w1.heap.size 3 i0 _ 1 Tryz.underlying29 Hi.out Hz0.out Hz1.out .i64 .i64 _ _ n rfl rfl rfl rfl (by rw [Hz2.out]; omega) (by unfold maxLen; omega) (by rw [HSU.out]; omega) ?_; intro w3 hown3 hg3; have x43 := x4.grown hg3 (by simp); obtain ⟨X, HX, x6, x7, hbX, hsX⟩ := boxes2 w3 #[.slice (some ⟨U.heap.size, 0, none⟩) n n] 29 #[.int .u64 0, .int .u64 0, .int .u64 0, .int .u64 0, .int .u64 0, .int .u64 0, .int .u64 0, .int .u64 0] 169; have d4 := (x43.below hbX).c1; have HSX := Lib.hid hsX; have hX := HX.out; clear hsX)
  clear hU hX c4 d4
  have em := made_flat (cell := icell) (size := 1) (x0 := (0 : Int)) (by decide) (Value.int .i64 0).cells rfl n
  rw [em] at hown3
  clear em
  have hb3 : Below w1.heap.size w1 w3 := hbU.grown hg3 hbU.size (by simp)
  have BX : Below w1.heap.size w1 X := hb3.trans (hbX.mono hb3.size)
  have hs13 : U.heap.size < w3.heap.size := (own_lt hown3).2
  have hsU : U.heap.size = w1.heap.size + 2 := HSU.out
  have ps0 : PS w1 X n A1 c1 (.slice none 0 0) U.heap.size w3.heap.size ((Dg.lds R 0).map (Dg.scc R)) (Dg.fix R 0) (Dg.uni R (Dg.lds R 0)) := by
    refine ⟨BX, x43.below hbX, (x5.grown hg3 (by simp)).below hbX, own_nil _ _ _ _ _, x6, ?_, ?_⟩
    · have := own_below hown3 hbX
      rw [show List.replicate n (0 : Int) = Dg.fl n (Dg.fix R 0) by unfold Dg.fl; rw [show (Dg.fix R 0) = fun _ => (0 : Int) from funext (Dg.fix_zero R), List.map_const', List.length_range]] at this
      exact this
    · rw [← zero8] at x7
      exact x7
  clear x4 x5 x43 x6 x7 hown3 hg3 hb3
  have hsX : X.heap.size = w3.heap.size + 2 := HSX.out
  have HS6 := Lib.hid (show w1.heap.size + 2 ≤ U.heap.size ∧ U.heap.size < w3.heap.size from ⟨by omega, by omega⟩)
  have hX2 : w3.heap.size + 2 ≤ X.heap.size := by omega
  clear hsU hsX hs13 HSU HSX HU HX hbU
  generalize U.heap.size = g6 at *
  generalize w3.heap.size = b6 at *
  refine wp_loop_marks [8, 9, 10, 18, 19, 20, 21, 22, 23, 24, 25, 26, 27, 28, 29, 30, 31, 32, 33, 34, 35, 36, 37, 38, 39, 40, 41, 42, 43, 44, 45, 46, 47, 48, 49, 50, 51, 52, 53, 54] (fun m us ds W0 => ∃ (k : Nat) (v5 : Value) (j8 j9 j10 j19 j20 j21 j22 j23 j24 j25 j26 j27 j28 j29 j30 j31 j32 j33 j34 j35 j36 j37 j38 j39 j40 j41 j42 j43 j44 j45 j46 j47 j48 j49 j50 j51 j52 j53 j54 : Value), us = [j8, j9, j10, .int .i64 k, j19, j20, j21, j22, j23, j24, j25, j26, j27, j28, j29, j30, j31, j32, j33, j34, j35, j36, j37, j38, j39, j40, j41, j42, j43, j44, j45, j46, j47, j48, j49, j50, j51, j52, j53, j54] ∧ m = n - k ∧ k ≤ n ∧ PS w1 W0 n A1 c1 v5 g6 b6 ((Dg.lds R k).map (Dg.scc R)) (Dg.fix R k) (Dg.uni R (Dg.lds R k)) ∧ b6 + 2 ≤ W0.heap.size ∧ Marks w1.heap.size W0.heap.size ds W0) n ⟨0, .slice none 0 0, _, _, _, _, _, _, _, _, _, _, _, _, _, _, _, _, _, _, _, _, _, _, _, _, _, _, _, _, _, _, _, _, _, _, _, _, _, _, _, rfl, rfl, Nat.zero_le _, ps0, hX2, Marks.none_⟩ ?_
  clear ps0 BX hbX hX2
  rintro m us ds W0 ⟨k, v5, j8, j9, j10, j19, j20, j21, j22, j23, j24, j25, j26, j27, j28, j29, j30, j31, j32, j33, j34, j35, j36, j37, j38, j39, j40, j41, j42, j43, j44, j45, j46, j47, j48, j49, j50, j51, j52, j53, j54, rfl, rfl, hk, ps, hsz, hM⟩
  simp only [over, List.zip_cons_cons, List.zip_nil_left, List.foldl_cons, List.foldl_nil, List.setIfInBounds_toArray, List.set_cons_succ, List.set_cons_zero]
  have B0 := after_ hb1 ps.bel
  obtain ⟨L, hLL⟩ : ∃ L, (Dg.lds R k).map (Dg.scc R) = L := ⟨_, rfl⟩
  have HLL : Hid (L.length = (Dg.lds R k).length) := Lib.hid (by rw [← hLL, List.length_map])
  have HLE := Lib.hid hLL
  rw [hLL] at ps
  clear hLL
  obtain ⟨A5, c5, rfl, -⟩ := own_slice (by decide) ps.o5
  by_cases hlt : k < n
  · have x0 : (0 : Int) ≤ (k : Int) := by omega
    have x1 : (k : Int) < (n : Int) := by omega
    have q0 : decide ((k : Int) < (n : Int)) = true := decide_eq_true x1
    have hkR : k < R.length := by rw [HN.out]; exact hlt
    obtain ⟨X, HX, x8, hbX, hsX⟩ := boxes1 W0 #[.int .i64 (k : Int)] 3
    have HSX := Lib.hid hsX
    have pX := ps.next hbX
    have kH := bsHas_ok (Dg.uni R (Dg.lds R k)) k X (by omega)
    rw [Dg.seen_lead hR hkR] at kH
    obtain ⟨d0, d1, d2, d3, d4, d5, d6, d7⟩ := pX.x7.w
    have c8 := x8.c1
    have hX := HX.out
    clear hsX
    go_wp2_with fail
    clear hX c8 d0 d1 d2 d3 d4 d5 d6 d7
    refine kH.mono ?_
    rintro e w2 ⟨rfl, hb2⟩
    clear kH
    have p2 := pX.next hb2
    have y8 := x8.below hb2
    have hM2 := (hM.below hbX).below hb2
    cases hlead : Dg.lead R k with
    | false =>
      have HP : Hid (PS w1 w2 n A1 c1 (.slice A5 L.length c5) g6 b6 ((Dg.lds R (k + 1)).map (Dg.scc R)) (Dg.fix R (k + 1)) (Dg.uni R (Dg.lds R (k + 1)))) := Lib.hid (by
        rw [Dg.lds_no hlead, HLE.out, show Dg.fix R (k + 1) = Dg.fix R k from funext (Dg.fix_no hlead)]
        exact p2)
      clear hlead
      have hsz2 : b6 + 2 ≤ w2.heap.size := by have := hbX.size; have := hb2.size; omega
      have hm2 := hM2.more (Nat.le_trans hbX.size hb2.size)
      clear p2 pX ps hM hM2
      go_wp2_with fail
      exact ⟨rfl, n - (k + 1), by omega, k + 1, _, _, _, _, _, _, _, _, _, _, _, _, _, _, _, _, _, _, _, _, _, _, _, _, _, _, _, _, _, _, _, _, _, _, _, _, _, _, _, _, rfl, rfl, hlt, HP.out, hsz2, hm2⟩
    | true =>
      have HLD := Lib.hid hlead
      clear hlead
      obtain ⟨X2, HX2, x9, hbX2, hsX2⟩ := boxes1 w2 (bsc 0) 169
      have p3 := p2.next hbX2
      have y8' := y8.below hbX2
      have c4 := p3.x4.c1
      have c8 := y8'.c1
      have hS3 := (hS1.below p3.bel).more p3.bel.size
      obtain ⟨la, hla, hlb, a0, a1, a2, a3, a4, a5, a6, a7⟩ := hS3.bs8 (k := k) (by rw [rchs_len]; exact hkR)
      rw [show (rchs R)[k]'(by rw [rchs_len]; exact hkR) = Dg.rch R k by unfold rchs; rw [List.getElem_map, List.getElem_range]] at a0 a1 a2 a3 a4 a5 a6 a7
      subst hla
      have hX2 := HX2.out
      rw [zero8] at hX2
      have HSX2 := Lib.hid hsX2
      clear hsX2
      go_wp2_with fail
      clear hX2 c4 c8 a0 a1 a2 a3 a4 a5 a6 a7
      refine (bsAll_ok (Dg.rch R k) X2).mono ?_
      rintro e w4 ⟨rfl, hb4, hs4, xb⟩
      have p4 := p3.next hb4
      have z8 := y8'.below hb4
      have z9 := x9.below hb4
      have hM4 := (hM2.below hbX2).below hb4
      have B4 := after_ hb1 p4.bel
      have l8 : W0.heap.size < w2.heap.size := y8.lt
      have l9 : w2.heap.size < X2.heap.size := x9.lt
      have hno : (Value.slice A5 L.length c5).ownBlock ≠ some w2.heap.size := fun e => by have := (p2.o5.lt _ e).2; omega
      have hno8 : (Value.slice A5 L.length c5).ownBlock ≠ some W0.heap.size := fun e => by have := (ps.o5.lt _ e).2; omega
      clear p2 p3 pX y8 y8' x9 x8 hM hM2
      go_wp2_with fail
      refine wp_range (gf := 123) (lb := #[.pointer (some ⟨X2.heap.size, 0, none⟩)]) rfl (enters_of Tryz.func123 (by kernel_rfl) rfl) (bsAll_seq X2.heap.size (Dg.rch R k)) (fun _ => rfl)
        (fun pre W => PS w1 W n (some la) c1 (.slice A5 L.length c5) g6 b6 L (Dg.fixp R k (Dg.ptf R k pre)) (Dg.uni R (Dg.lds R k)) ∧ Box W W0.heap.size #[.int .i64 (k : Int)] 3 ∧ Box W w2.heap.size (bsc (Dg.ptf R k pre)) 169 ∧ Box W X2.heap.size (bsc (Dg.rch R k)) 169 ∧ Marks w1.heap.size w4.heap.size ds W) (fun _ _ _ => False)
        ?hI (fun _ _ _ _ _ h => h.elim) ?hK ⟨by rw [show Dg.fixp R k (Dg.ptf R k []) = Dg.fix R k from funext (Dg.fixp_zero R k)]; exact p4, z8, z9, xb, hM4.more (by have := hbX.size; have := hb2.size; have := hbX2.size; have := hb4.size; omega)⟩ ?round ?done (fun _ _ _ h => h.elim)
      case hI => exact fun pre W W' row ⟨h1, h2, h3, h4, h5⟩ hg hr => ⟨h1.own p4.bel.size hg hr, h2.own hg hr, h3.own hg hr, h4.own hg hr, h5.own (Nat.le_refl _) hg hr⟩
      case hK => exact fun pre W ⟨h1, h2, h3, h4, h5⟩ => ⟨h4, ht.kept (after_ hb1 h1.bel)⟩
      case round =>
        intro r' pre x post W hL hl hd hi
        gi_wp2
        refine ⟨hl, hd, hi, fun _ => True, fun _ _ _ _ _ _ _ => trivial, trivial, ?_⟩
        clear hl hd hi
        rintro r'' W2 hl hd ⟨h1, h2, h3, h4, h5⟩ -
        have hxR : x < R.length := ((Dg.rch_bit hR hkR x).1 ((Bs.mem_els (Dg.rch_fit hR hkR)).1 (by rw [hL]; simp))).lt hR hkR
        have HP := Lib.hid (Dg.ptf_snoc R k pre x)
        clear hL
        have hSW := (hS1.below h1.bel).more h1.bel.size
        obtain ⟨la', hla, hlb', a0, a1, a2, a3, a4, a5, a6, a7⟩ := hSW.bs8 (k := x) (by rw [rchs_len]; exact hxR)
        obtain rfl := Option.some.inj hla
        rw [show (rchs R)[x]'(by rw [rchs_len]; exact hxR) = Dg.rch R x by unfold rchs; rw [List.getElem_map, List.getElem_range]] at a0 a1 a2 a3 a4 a5 a6 a7
        have c4 := h1.x4.c1
        have c8 := h2.c1
        have lx4 := h1.x4.lt
        have lx8 := h2.lt
        have y0 : (0 : Int) ≤ (x : Int) := by omega
        have y1 : (x : Int) < (n : Int) := by have := HN.out; omega
        gi_wp2_with fail
        refine wpIn_region_keptN W2.heap.size W2 (by kernel_rfl) (by kernel_rfl) (by kernel_rfl) (Below.refl _ _) ?_
        repeat (go_big_quiet_step ((go_at_call 143; exact Kept.calls (Nat.le_refl _) (bsHas_ok (Dg.rch R x) k _ (by omega)))))
        refine wpQuiet_nil ?_
        rintro w6 ⟨⟨_, hb6⟩, rfl⟩
        clear c4 c8 a0 a1 a2 a3 a4 a5 a6 a7
        have q1 := h1.next hb6
        have q2 := h2.below hb6
        have q3 := h3.below hb6
        have q4 := h4.below hb6
        have q5 := h5.below hb6
        have hl6 := hl.below hb6
        have hd6 := hd.below hb6
        clear h1 h2 h3 h4 h5 hl hd hlb' lx4 lx8
        cases hbit : (Dg.rch R x).testBit k with
        | false =>
          rw [hbit] at HP
          have HP2 : Hid (Dg.ptf R k (pre ++ [x]) = Dg.ptf R k pre) := Lib.hid HP.out
          gi_wp2_with fail
          rw [HP2.out]
          exact ⟨hl6, hd6, q1, q2, q3, q4, q5⟩
        | true =>
          rw [hbit] at HP
          have HP2 : Hid (Dg.ptf R k (pre ++ [x]) = Dg.ptf R k pre ||| 2 ^ x) := Lib.hid HP.out
          clear hbit HP
          obtain ⟨d0, d1, d2, d3, d4, d5, d6, d7⟩ := q3.w
          gi_wp2_with fail
          clear d0 d1 d2 d3 d4 d5 d6 d7
          refine ⟨trivial, ?_⟩
          refine (callsIn_wide.2 (bsAdd_ok (Dg.ptf R k pre) x w6 (by omega))).mono ?_
          rintro e w7 ⟨rfl, hb7⟩
          have v1 := q1.next hb7
          have v2 := q2.below hb7
          have v3 := q3.below hb7
          have v4 := q4.below hb7
          have v5' := q5.below hb7
          have hl7 := hl6.below hb7
          have hd7 := hd6.below hb7
          clear q1 q2 q3 q4 q5 hl6 hd6
          rw [← HP2.out]
          obtain ⟨Y, HY, z, hBY, hsY, hoY⟩ := store8 w7 w2.heap.size (Dg.ptf R k (pre ++ [x])) _ _ v3 rfl
          have hgY := grown8 HY.out
          have hlY := hl7.set8 rfl v3 HY.out
          have hdY := hd7.set8 rfl v3 HY.out
          have hMY := v5'.set8 v3 HY.out
          have s2 := hoY _ _ _ (by omega) v2
          have s4 := hoY _ _ _ (by omega) v4
          have s1 := v1.far hgY (by omega) hno (by have := HS6.out; omega) (by have := HS6.out; omega)
          obtain ⟨g0, g1, g2, g3, g4, g5, g6', g7⟩ := v3.f8
          obtain ⟨d0, d1, d2, d3, d4, d5, d6, d7⟩ := v3.w
          have e6 := s1.x6.c1
          have e5 := s1.x5.c1
          obtain ⟨i6, j6⟩ := s1.at6 (x := x) (by omega)
          have hY := HY.out
          gi_wp2_with fail
          have r1 := s1.set6 HS6.out (x := x) (by omega) (L.length : Int)
          have hE : (fun j => if j = x then (L.length : Int) else Dg.fixp R k (Dg.ptf R k pre) j) = Dg.fixp R k (Dg.ptf R k (pre ++ [x])) := by
            funext j
            rw [HP2.out, Dg.fixp_step, HLL.out]
          rw [hE] at r1
          change _ ∧ _ ∧ _
          have nl : ∀ b, b ≠ g6 → ∀ q : Value, b ≠ (⟨g6, x, none⟩ : Addr).block := fun b hb _ => hb
          exact ⟨hlY.set_other (hlY.ne_own0 rfl s1.o6) _, hdY.set_other (hdY.ne_own0 rfl s1.o6) _, r1, s2.set_other (by have := HS6.out; dsimp only; omega) _, z.set_other (by have := HS6.out; dsimp only; omega) _, s4.set_other (by have := HS6.out; dsimp only; omega) _, hMY.set_own s1.o6 _⟩
      case done =>
        rintro W ⟨h1, h2, h3, h4, h5⟩ hD
        rw [Dg.ptf_all hR hkR] at h1 h3
        have HU := Lib.hid (Dg.uni_snoc R (Dg.lds R k) k)
        have HF : Hid (Dg.fixp R k (Dg.scc R k) = Dg.fix R (k + 1)) := Lib.hid (funext fun j => by rw [Dg.fix_yes hR hkR HLD.out]; rfl)
        have HL2 : Hid (L ++ [Dg.scc R k] = (Dg.lds R (k + 1)).map (Dg.scc R)) := Lib.hid (by rw [Dg.lds_yes HLD.out, List.map_append, HLE.out]; rfl)
        have hLl : L.length ≤ 512 := by have := Dg.lds_len R k; have := HLL.out; omega
        rw [HF.out] at h1
        generalize Dg.scc R k = sk at *
        obtain ⟨d0, d1, d2, d3, d4, d5, d6, d7⟩ := h1.x7.w
        obtain ⟨e0, e1, e2, e3, e4, e5, e6, e7⟩ := h3.w
        go_wp2_with fail
        clear d0 d1 d2 d3 d4 d5 d6 d7 e0 e1 e2 e3 e4 e5 e6 e7
        refine (bsUnion_ok (Dg.uni R (Dg.lds R k)) sk W).mono ?_
        rintro e w7 ⟨rfl, hb7⟩
        rw [← HU.out, ← Dg.lds_yes HLD.out]
        have v1 := h1.next hb7
        have v3 := h3.below hb7
        have hD7 := hD.below hb7
        have hM7 := h5.below hb7
        obtain ⟨Y, HY, z, hBY, hsY, hoY⟩ := store8 w7 (b6 + 1) (Dg.uni R (Dg.lds R (k + 1))) _ _ v1.x7 rfl
        have hgY := grown8 HY.out
        have s1 := v1.set7 HS6.out hgY z
        have s3 := hoY _ _ _ (by omega) v3
        have hDY := hD7.set8 rfl v1.x7 HY.out
        have hMY := hM7.set8 v1.x7 HY.out
        obtain ⟨g0, g1, g2, g3, g4, g5, g6', g7⟩ := v1.x7.f8
        obtain ⟨d0, d1, d2, d3, d4, d5, d6, d7⟩ := v1.x7.w
        obtain ⟨e0, e1, e2, e3, e4, e5, e6, e7⟩ := s3.w
        have e5 := s1.x5.c1
        have hY := HY.out
        go_wp2_with (at_builtin; (refine wpList_push (w0 := w1) (cell := bscell) (y := sk) rfl _ _ _ rfl (b6 + 2) w1.heap.size 169 i8 _ 64 Tryz.underlying213 Hi8.out Hz08.out Hz18.out Hz28.out rfl (by decide) _ _ _ rfl s1.o5 _ _ rfl 1 (by rw [hsY]; rfl) (fun j => bs_one sk j) (by unfold maxLen; omega) (by omega) (by have := s1.bel.size; have := s1.x7.lt; omega) (by have := HS6.out; omega) s1.bel ?_; intro v' w8 hown8 hb8 hg8; have f5 := s1.x5.grown hg8 (fun e => by have := (s1.o5.lt _ e.symm).1; have := HS6.out; omega); have f50 := f5.frozen 0; have f51 := f5.c1; obtain ⟨g8, cap8, rfl⟩ := ownsRow_succ hown8))
        have hP := s1.push HS6.out hown8 hg8
        rw [HL2.out] at hP
        have hM8 := (hMY.grown s1.o5 hg8).set_other (i := 0) f5 (.slice (some ⟨g8, 0, none⟩) (L.length + 1) cap8)
        have hD8 := (hDY.grown hg8 (Hold.ne_own hDY rfl s1.o5)).set_other (p := ⟨w1.heap.size + 1, 0, none⟩) (hDY.grown hg8 (Hold.ne_own hDY rfl s1.o5) |>.ne_box rfl f5) (.slice (some ⟨g8, 0, none⟩) (L.length + 1) cap8)
        have hDl := hD8.lt
        rw [hs4] at hD8
        have hMf := hM8.cons (C := w4.heap.size) (D := X2.heap.size + 1) (Nat.le_trans ps.bel.size (by have := hbX.size; have := hb2.size; have := hbX2.size; omega)) (by omega) hD8
        refine ⟨rfl, n - (k + 1), by omega, k + 1, _, _, _, _, _, _, _, _, _, _, _, _, _, _, _, _, _, _, _, _, _, _, _, _, _, _, _, _, _, _, _, _, _, _, _, _, _, _, _, _, rfl, rfl, hlt, hP, by omega, hMf.more (by omega)⟩
  · obtain rfl : k = n := by omega
    have q0 : decide ((k : Int) < (k : Int)) = false := decide_eq_false (by omega)
    have hS5 := Sl.of_own (by decide) ps.o5
    have hS6 := Sl.of_own (by decide) ps.o6
    have HPT : Hid (L = Dg.parts R) := Lib.hid (by rw [← HLE.out]; unfold Dg.parts; rw [← Dg.lds_all, HN.out])
    have HFX : Hid (Dg.fl k (Dg.fix R k) = Dg.fl R.length fun j => (Dg.pidx R j : Int)) := Lib.hid (by
      rw [HN.out]
      refine Dg.fl_congr fun j hj => ?_
      have := Dg.fix_all hR (j := j) (by rw [HN.out]; exact hj)
      rwa [HN.out] at this)
    have c5' := ps.x5.c1
    have c6 := ps.x6.c1
    go_wp2_with fail
    go_region
    all_goals
      go_wp2_with fail
      refine leaves_marks (B := w1.heap.size) _ _ hM (fun W' hs => ?_)
      refine ⟨.tuple #[.slice A5 L.length c5, .slice (some ⟨g6, 0, none⟩) k k], ?_, ?_⟩
      · simp [results, Tryz.results153, go_sem]
      · refine ⟨A5, c5, some ⟨g6, 0, none⟩, k, by rw [← HPT.out, HN.out], ?_, ?_, B0.drew.trans (hs.below.mono hb1.size)⟩
        · rw [← HPT.out]; exact hs.sl hS5
        · rw [← HFX.out]; exact hs.sl hS6
end Go.Proofs.YtpkepgcmifdpfaaGreatDoor
end
