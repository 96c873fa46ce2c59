/- A bundle of texts: Gh2, Gh4, Gh3. -/
import Derived.Test.YtjoomgojnpcbeaaDoorK08
import Derived.Test.YtjoomgojnpcbeaaDoorK09
import Derived.Test.YtjoomgojnpcbeaaDoorK07
import Derived.Test.YtjoomgojnpcbeaaDoorK03
import Derived.Deep.AppendLies
import Derived.Maps.AppendAt
section
namespace Go.Proofs.YtjoomgojnpcbeaaDoor
open Go Go.RowKit
set_option maxRecDepth 100000
theorem bsInfo : (Tryd.prog.info? 63).map (fun i => (i.zero, i.size, i.bytes)) = some (some (.agg #[.int .u64 0, .int .u64 0, .int .u64 0, .int .u64 0, .int .u64 0, .int .u64 0, .int .u64 0, .int .u64 0]), 8, 64) := by kernel_rfl
theorem bscell0 (j : Nat) : bscell 0 j = .int .u64 0 := by
  unfold bscell
  rw [zero8]
  rcases j with _ | _ | _ | _ | _ | _ | _ | _ | j <;> rfl
set_option maxHeartbeats 8000000 in
theorem ghNew_ok (n : Nat) (w : World) (hn : n ≤ 512) : Calls Tryd.prog 29 #[.int .i64 n] w fun e w' => ∃ bg g, e = .returned (.tuple #[gp bg, .int .i64 0]) ∧ w.heap.size ≤ g ∧ g < bg ∧ Box w' bg #[.bool true, .slice (some ⟨g, 0, none⟩) n n, .int .i64 0] 72 ∧ w'.ownsRow w.heap.size 63 8 (.slice (some ⟨g, 0, none⟩) n n) n (flat 8 bscell (List.replicate n 0)) ∧ Below w.heap.size w w' := by
  obtain ⟨i8, hi8, hz0, hz1, hz2⟩ := info_parts bsInfo
  have Hi := Lib.hid hi8; have Hz0 := Lib.hid hz0; have Hz1 := Lib.hid hz1; have Hz2 := Lib.hid hz2
  clear hi8 hz0 hz1 hz2
  have g1 : decide ((n : Int) < 0) = false := decide_eq_false (by omega)
  have g2 : decide ((512 : Int) < (n : Int)) = false := decide_eq_false (by omega)
  go_enter Tryd.func29, Tryd.ntmps29
  go_wp2_with (at_make; refine wpList_make_full _ rfl _ _ 70 rfl w.heap.size 63 i8 _ 8 Tryd.underlying70 Hi.out Hz0.out Hz1.out .i64 .i64 _ _ n rfl rfl rfl rfl (by rw [Hz2.out]; omega) (by unfold maxLen; omega) (Nat.le_refl _) ?_; intro w2 hown2 hg2; obtain ⟨X, HX, bx, hbX, -⟩ := boxes1 w2 #[.bool true, .slice (some ⟨w.heap.size, 0, none⟩) n n, .int .i64 0] 72; have hX := HX.out)
  go_ret2
  have em := made_flat (cell := bscell) (size := 8) (x0 := 0) (by decide) (Value.agg #[.int .u64 0, .int .u64 0, .int .u64 0, .int .u64 0, .int .u64 0, .int .u64 0, .int .u64 0, .int .u64 0]).cells (by simp [Value.cells, bscell0, List.range_succ]) n
  rw [em] at hown2
  have hb2 : Below w.heap.size w w2 := (Below.refl _ _).grown hg2 (Nat.le_refl _) (by simp)
  exact ⟨w2.heap.size, w.heap.size, rfl, Nat.le_refl _, (own_lt hown2).2, bx, own_below hown2 hbX, after_ hb2 hbX⟩
theorem below_grown {w w' : World} (hb : Below w.heap.size w w') : w.grownBy w' none := ⟨hb.os, hb.tape, hb.output, hb.size, fun k hk _ => hb.block k hk⟩
theorem grown_set (w : World) (b i : Nat) (v : Value) : w.grownBy (w.setCell ⟨b, i, none⟩ v) (some b) :=
  ⟨rfl, rfl, rfl, by simp, fun k _ hk => heap_setCell_other w ⟨b, i, none⟩ k v (fun e => hk (by simp [e]))⟩
theorem grown_any {w w' : World} (h : w.grownBy w' none) (row : Option Nat) : w.grownBy w' row := ⟨h.os, h.tape, h.output, h.size, fun i hi _ => h.block i hi (by simp)⟩
structure GO (w : World) (base g bg n cp : Nat) (R : List Nat) (edges : Int) : Prop where
  box : Box w bg #[.bool true, .slice (some ⟨g, 0, none⟩) n cp, .int .i64 edges] 72
  own : w.ownsRow base 63 8 (.slice (some ⟨g, 0, none⟩) n cp) n (flat 8 bscell R)
  len : R.length = n
  far : g < bg
theorem GO.gg {w : World} {base g bg n cp : Nat} {R : List Nat} {edges : Int} (h : GO w base g bg n cp R edges) : GG w bg (some ⟨g, 0, none⟩) cp R edges := ⟨by rw [h.len]; exact h.box, Sl.of_own (by decide) h.own⟩
theorem GO.next {w w' : World} {base g bg n cp : Nat} {R : List Nat} {edges : Int} (h : GO w base g bg n cp R edges) (hb : Below w.heap.size w w') : GO w' base g bg n cp R edges := ⟨h.box.below hb, own_below h.own hb, h.len, h.far⟩
theorem GO.cells {w : World} {base g bg n cp : Nat} {R : List Nat} {edges : Int} (h : GO w base g bg n cp R edges) {k : Nat} (hk : k < R.length) : ∀ j, j < 8 → w.cell? ⟨g, k * 8 + j, none⟩ = some (bscell R[k] j) ∧ w.frozen? ⟨g, k * 8 + j, none⟩ = false := fun _ hj => own_at h.own hk hj
theorem GO.lt {w : World} {base g bg n cp : Nat} {R : List Nat} {edges : Int} (h : GO w base g bg n cp R edges) : base ≤ g ∧ g < w.heap.size := own_lt h.own
theorem GO.put {w : World} {base g bg n cp : Nat} {R : List Nat} {edges : Int} (h : GO w base g bg n cp R edges) {k : Nat} (hk : k < R.length) (y : Nat) : GO (setRun w g (k * 8) ((List.range 8).map (bscell y))) base g bg n cp (R.set k y) edges :=
  ⟨h.box.grown (setRun_grown _ (World.grownBy.refl w (some g))) (fun e => by have e2 : bg = g := Option.some.inj e; have := h.far; omega), own_put (by decide) h.own hk y, by rw [List.length_set]; exact h.len, h.far⟩
theorem GO.arc {w : World} {base g bg n cp : Nat} {R : List Nat} {edges : Int} (h : GO w base g bg n cp R edges) (c : Int) : GO (w.setCell ⟨bg, 2, none⟩ (.int .i64 c)) base g bg n cp R c :=
  ⟨h.box.set 2 _, World.ownsRow.kept h.own (grown_set w bg 2 (.int .i64 c)) (.inr (fun e => by have e2 : g = bg := Option.some.inj e; have := h.far; omega)), h.len, h.far⟩
set_option maxHeartbeats 2000000 in
theorem inRange_no (i : Int) (w : World) (hi : i < 0 ∨ 512 ≤ i) : Calls Tryd.prog 64 #[.int .i64 i] w fun e w' => e = .returned (.bool false) ∧ w = w' := by
  by_cases h0 : 0 ≤ i
  · have q0 : decide ((0 : Int) ≤ i) = true := decide_eq_true h0
    have q1 : decide (i < 512) = false := decide_eq_false (by omega)
    go_enter Tryd.func64, Tryd.ntmps64
    go_wp2_with fail
    go_ret
    exact ⟨rfl, rfl⟩
  · have q0 : decide ((0 : Int) ≤ i) = false := decide_eq_false h0
    go_enter Tryd.func64, Tryd.ntmps64
    go_wp2_with fail
    go_ret
    exact ⟨rfl, rfl⟩
set_option maxHeartbeats 4000000 in
theorem bsHas_no (n : Nat) (i : Int) (w : World) (hi : i < 0 ∨ 512 ≤ i) : Calls Tryd.prog 41 #[bsv n, .int .i64 i] w fun e w' => e = .returned (.bool false) ∧ Below w.heap.size w w' := by
  obtain ⟨V, HW, x0, hB, -⟩ := boxes1 w (bsc n) 63
  have hV := HW.out
  have kR := inRange_no i V hi
  clear hi
  go_enter Tryd.func41, Tryd.ntmps41
  go_wp2_with fail
  clear hV
  refine kR.mono ?_
  rintro e w1 ⟨rfl, rfl⟩
  go_wp2_with fail
  go_ret
  exact ⟨rfl, hB⟩
set_option maxHeartbeats 4000000 in
theorem ghHasE_ok (bg : Nat) (A : Option Addr) (c : Nat) (R : List Nat) (edges : Int) (a b : Nat) (w : World) (h : GG w bg A c R edges) (ha : a < R.length) (hb : b < 512) : Calls Tryd.prog 28 #[gp bg, .int .i64 a, .int .i64 b] w fun e w' => e = .returned (.bool ((Dg.row R a).testBit b)) ∧ Below w.heap.size w w' := by
  have kH := ghHas_ok bg A c R edges a w h
  rw [inR_nat, decide_eq_true ha] at kH
  rw [row_at ha]
  obtain ⟨la, hla, hlb, a0, a1, a2, a3, a4, a5, a6, a7⟩ := h.rows.bs8 ha
  have kB := bsHas_ok R[a] b w hb
  generalize R[a] = r at *
  obtain ⟨e0, e1, e2⟩ := h.box.c3
  have x0 : (0 : Int) ≤ (a : Int) := by omega
  have x1 : (a : Int) < (R.length : Int) := by omega
  subst hla
  go_enter Tryd.func28, Tryd.ntmps28
  go_wp2_with fail
  refine kH.mono ?_
  rintro e w1 ⟨rfl, rfl⟩
  go_wp2_with fail
  refine kB.mono ?_
  rintro e w1 ⟨rfl, hb1⟩
  go_wp2_with fail
  go_ret
  exact ⟨rfl, hb1⟩
set_option maxHeartbeats 4000000 in
theorem ghHasE_off (bg : Nat) (A : Option Addr) (c : Nat) (R : List Nat) (edges : Int) (a : Nat) (b : Int) (w : World) (h : GG w bg A c R edges) (ha : a < R.length) (hb : b < 0 ∨ 512 ≤ b) : Calls Tryd.prog 28 #[gp bg, .int .i64 a, .int .i64 b] w fun e w' => e = .returned (.bool false) ∧ Below w.heap.size w w' := by
  have kH := ghHas_ok bg A c R edges a w h
  rw [inR_nat, decide_eq_true ha] at kH
  obtain ⟨la, hla, hlb, a0, a1, a2, a3, a4, a5, a6, a7⟩ := h.rows.bs8 ha
  have kB := bsHas_no R[a] b w hb
  generalize R[a] = r at *
  obtain ⟨e0, e1, e2⟩ := h.box.c3
  have x0 : (0 : Int) ≤ (a : Int) := by omega
  have x1 : (a : Int) < (R.length : Int) := by omega
  subst hla
  clear hb
  go_enter Tryd.func28, Tryd.ntmps28
  go_wp2_with fail
  refine kH.mono ?_
  rintro e w1 ⟨rfl, rfl⟩
  go_wp2_with fail
  refine kB.mono ?_
  rintro e w1 ⟨rfl, hb1⟩
  go_wp2_with fail
  go_ret
  exact ⟨rfl, hb1⟩
set_option maxHeartbeats 4000000 in
theorem ghHasE_no (bg : Nat) (A : Option Addr) (c : Nat) (R : List Nat) (edges : Int) (a b : Int) (w : World) (h : GG w bg A c R edges) (ha : inR R a = false) : Calls Tryd.prog 28 #[gp bg, .int .i64 a, .int .i64 b] w fun e w' => e = .returned (.bool false) ∧ w = w' := by
  have kH := ghHas_ok bg A c R edges a w h
  rw [ha] at kH
  go_enter Tryd.func28, Tryd.ntmps28
  go_wp2_with fail
  refine kH.mono ?_
  rintro e w1 ⟨rfl, rfl⟩
  go_wp2_with fail
  go_ret
  exact ⟨rfl, rfl⟩
def hasB (R : List Nat) (a b : Int) : Bool := inR R a && (decide (0 ≤ b) && (Dg.row R a.toNat).testBit b.toNat)
theorem hasB_nat (R : List Nat) {a : Nat} (ha : a < R.length) (b : Nat) : hasB R a b = (Dg.row R a).testBit b := by
  unfold hasB
  rw [inR_nat, decide_eq_true ha, Bool.true_and, decide_eq_true (show (0 : Int) ≤ (b : Int) by omega), Bool.true_and]
  rfl
theorem ghHasB_ok (bg : Nat) (A : Option Addr) (c : Nat) (R : List Nat) (edges : Int) (a b : Int) (w : World) (h : GG w bg A c R edges) (hR : Dg.Ok R) : Calls Tryd.prog 28 #[gp bg, .int .i64 a, .int .i64 b] w fun e w' => e = .returned (.bool (hasB R a b)) ∧ Below w.heap.size w w' := by
  cases hI : inR R a with
  | false =>
    refine (ghHasE_no bg A c R edges a b w h hI).mono ?_
    rintro e w' ⟨rfl, rfl⟩
    exact ⟨by unfold hasB; rw [hI]; rfl, Below.refl _ _⟩
  | true =>
    obtain ⟨k, rfl, hk⟩ := inR_yes hI
    by_cases hb : b < 0 ∨ 512 ≤ b
    · have e1 : hasB R k b = false := by
        unfold hasB
        rw [hI, Bool.true_and]
        rcases hb with hb | hb
        · rw [decide_eq_false (by omega)]; rfl
        · rw [hR.row_fit _ _ (by omega), Bool.and_false]
      rw [e1]
      exact ghHasE_off bg A c R edges k b w h hk hb
    · obtain ⟨j, rfl⟩ : ∃ j : Nat, b = j := ⟨b.toNat, by omega⟩
      rw [hasB_nat R hk]
      exact ghHasE_ok bg A c R edges k j w h hk (by omega)
end Go.Proofs.YtjoomgojnpcbeaaDoor
end

section
namespace Go.Proofs.YtjoomgojnpcbeaaDoor
open Go Go.RowKit
set_option maxRecDepth 100000
set_option maxHeartbeats 4000000 in
theorem ghDegree_ok (bg : Nat) (A : Option Addr) (c : Nat) (R : List Nat) (edges : Int) (v : Nat) (w : World) (h : GG w bg A c R edges) (hv : v < R.length) : Calls Tryd.prog 36 #[gp bg, .int .i64 v] w fun e w' => e = .returned (.int .i64 (Bs.cnt (Dg.row R v) : Nat)) ∧ Below w.heap.size w w' := by
 have kH := ghHas_ok bg A c R edges v w h
 rw [inR_nat, decide_eq_true hv] at kH
 rw [row_at hv]
 obtain ⟨la, hla, hlb, a0, a1, a2, a3, a4, a5, a6, a7⟩ := h.rows.bs8 hv
 have kB := bsLen_ok R[v] w
 generalize R[v] = r at *
 obtain ⟨e0, e1, e2⟩ := h.box.c3
 have x0 : (0 : Int) ≤ (v : Int) := by omega
 have x1 : (v : Int) < (R.length : Int) := by omega
 subst hla
 go_enter Tryd.func36, Tryd.ntmps36
 go_wp2_with fail
 refine kH.mono ?_
 rintro e w1 ⟨rfl, rfl⟩
 go_wp2_with fail
 refine kB.mono ?_
 rintro e w1 ⟨rfl, hb1⟩
 go_wp2_with fail
 go_ret
 exact ⟨rfl, hb1⟩
end Go.Proofs.YtjoomgojnpcbeaaDoor
end

section
namespace Go.Proofs.YtjoomgojnpcbeaaDoor
open Go Go.RowKit
set_option maxRecDepth 100000
def Two (w w' : World) (g bg : Nat) : Prop := ∃ w1, w.grownBy w1 (some g) ∧ w1.grownBy w' (some bg)
def addE (R : List Nat) (a b : Nat) : List Nat := (R.set a (Dg.row R a ||| 2 ^ b)).set b (Dg.row R b ||| 2 ^ a)
theorem row_set_ne {R : List Nat} {a b : Nat} (h : a ≠ b) (x : Nat) : Dg.row (R.set a x) b = Dg.row R b := by
 unfold Dg.row
 rw [List.getD_eq_getElem?_getD, List.getD_eq_getElem?_getD, List.getElem?_set_ne h]
set_option maxHeartbeats 32000000 in
theorem ghAdd_ok (base g bg n cp a b : Nat) (R : List Nat) (edges : Int) (w : World) (h : GO w base g bg n cp R edges) (ha : a < n) (hb : b < n) (hab : a ≠ b) (hn : n ≤ 512) (hnew : (Dg.row R a).testBit b = false) (hc : 0 ≤ edges ∧ edges ≤ 1000000000) :
  Calls Tryd.prog 31 #[gp bg, .int .i64 a, .int .i64 b] w fun e w' => e = .returned (.int .i64 0) ∧ GO w' base g bg n cp (addE R a b) (edges + 1) ∧ Two w w' g bg := by
 have hl := h.len
 have haR : a < R.length := by omega
 have hbR : b < R.length := by omega
 have kV := ghValid_ok bg _ cp R edges w h.gg
 have kA := ghHas_ok bg _ cp R edges a w h.gg
 have kB := ghHas_ok bg _ cp R edges b w h.gg
 rw [inR_nat, decide_eq_true haR] at kA
 rw [inR_nat, decide_eq_true hbR] at kB
 have er : Dg.row R b = Dg.row (R.set a (Dg.row R a ||| 2 ^ b)) b := (row_set_ne hab _).symm
 unfold addE
 rw [er]
 clear er
 rw [row_at haR] at hnew ⊢
 have kH := bsHas_ok R[a] b w (by omega)
 rw [hnew] at kH
 clear hnew
 have HP1 : Hid (∀ w1, GO w1 base g bg n cp R edges → GO (setRun w1 g (a * 8) ((List.range 8).map (bscell (R[a] ||| 2 ^ b)))) base g bg n cp (R.set a (R[a] ||| 2 ^ b)) edges) := Lib.hid (fun w1 h1 => h1.put haR _)
 have hbR2 : b < (R.set a (R[a] ||| 2 ^ b)).length := by rw [List.length_set]; exact hbR
 generalize R.set a (R[a] ||| 2 ^ b) = R1 at *
 rw [row_at hbR2]
 have HP2 : Hid (∀ w1, GO w1 base g bg n cp R1 edges → GO (setRun w1 g (b * 8) ((List.range 8).map (bscell (R1[b] ||| 2 ^ a)))) base g bg n cp (R1.set b (R1[b] ||| 2 ^ a)) edges) := Lib.hid (fun w1 h1 => h1.put hbR2 _)
 generalize R1.set b (R1[b] ||| 2 ^ a) = R2 at *
 have HC1 : Hid (∀ w1, GO w1 base g bg n cp R edges → ∀ j, j < 8 → w1.cell? ⟨g, a * 8 + j, none⟩ = some (bscell R[a] j) ∧ w1.frozen? ⟨g, a * 8 + j, none⟩ = false) := Lib.hid (fun w1 h1 => h1.cells haR)
 have HC2 : Hid (∀ w1, GO w1 base g bg n cp R1 edges → ∀ j, j < 8 → w1.cell? ⟨g, b * 8 + j, none⟩ = some (bscell R1[b] j) ∧ w1.frozen? ⟨g, b * 8 + j, none⟩ = false) := Lib.hid (fun w1 h1 => h1.cells hbR2)
 have hcs := h.cells haR
 generalize R[a] = r at *
 generalize R1[b] = s at *
 obtain ⟨e0, e1, e2⟩ := h.box.c3
 have a0 : w.cell? ⟨g, a * 8, none⟩ = some (.int .u64 (Bs.wd r 0 : Nat)) := (hcs 0 (by decide)).1
 have a1 : w.cell? ⟨g, a * 8 + 1, none⟩ = some (.int .u64 (Bs.wd r 1 : Nat)) := (hcs 1 (by decide)).1
 have a2 : w.cell? ⟨g, a * 8 + 2, none⟩ = some (.int .u64 (Bs.wd r 2 : Nat)) := (hcs 2 (by decide)).1
 have a3 : w.cell? ⟨g, a * 8 + 3, none⟩ = some (.int .u64 (Bs.wd r 3 : Nat)) := (hcs 3 (by decide)).1
 have a4 : w.cell? ⟨g, a * 8 + 4, none⟩ = some (.int .u64 (Bs.wd r 4 : Nat)) := (hcs 4 (by decide)).1
 have a5 : w.cell? ⟨g, a * 8 + 5, none⟩ = some (.int .u64 (Bs.wd r 5 : Nat)) := (hcs 5 (by decide)).1
 have a6 : w.cell? ⟨g, a * 8 + 6, none⟩ = some (.int .u64 (Bs.wd r 6 : Nat)) := (hcs 6 (by decide)).1
 have a7 : w.cell? ⟨g, a * 8 + 7, none⟩ = some (.int .u64 (Bs.wd r 7 : Nat)) := (hcs 7 (by decide)).1
 clear hcs
 have x0 : (0 : Int) ≤ (a : Int) := by omega
 have x1 : (a : Int) < (n : Int) := by omega
 have x2 : (0 : Int) ≤ (b : Int) := by omega
 have x3 : (b : Int) < (n : Int) := by omega
 have q0 : ((a : Int) == (b : Int)) = false := by simpa using (by omega : ¬ ((a : Int) = (b : Int)))
 clear hl haR hbR hab hbR2
 go_enter Tryd.func31, Tryd.ntmps31
 go_wp2_with fail
 refine kV.mono ?_
 rintro e w1 ⟨rfl, rfl⟩
 go_wp2_with fail
 refine kA.mono ?_
 rintro e w1 ⟨rfl, rfl⟩
 go_wp2_with fail
 refine kB.mono ?_
 rintro e w1 ⟨rfl, rfl⟩
 go_wp2_with fail
 refine kH.mono ?_
 rintro e w1 ⟨rfl, hb0⟩
 have h1 := h.next hb0
 clear e0 e1 e2 a0 a1 a2 a3 a4 a5 a6 a7 kV kA kB kH
 have hcs := HC1.out w1 h1
 obtain ⟨e0, e1, e2⟩ := h1.box.c3
 have a0 : w1.cell? ⟨g, a * 8, none⟩ = some (.int .u64 (Bs.wd r 0 : Nat)) := (hcs 0 (by decide)).1
 have a1 : w1.cell? ⟨g, a * 8 + 1, none⟩ = some (.int .u64 (Bs.wd r 1 : Nat)) := (hcs 1 (by decide)).1
 have a2 : w1.cell? ⟨g, a * 8 + 2, none⟩ = some (.int .u64 (Bs.wd r 2 : Nat)) := (hcs 2 (by decide)).1
 have a3 : w1.cell? ⟨g, a * 8 + 3, none⟩ = some (.int .u64 (Bs.wd r 3 : Nat)) := (hcs 3 (by decide)).1
 have a4 : w1.cell? ⟨g, a * 8 + 4, none⟩ = some (.int .u64 (Bs.wd r 4 : Nat)) := (hcs 4 (by decide)).1
 have a5 : w1.cell? ⟨g, a * 8 + 5, none⟩ = some (.int .u64 (Bs.wd r 5 : Nat)) := (hcs 5 (by decide)).1
 have a6 : w1.cell? ⟨g, a * 8 + 6, none⟩ = some (.int .u64 (Bs.wd r 6 : Nat)) := (hcs 6 (by decide)).1
 have a7 : w1.cell? ⟨g, a * 8 + 7, none⟩ = some (.int .u64 (Bs.wd r 7 : Nat)) := (hcs 7 (by decide)).1
 clear hcs
 go_wp2_with fail
 have h1d : GO w1.drew base g bg n cp R edges := h1.next (Below.refl _ _).drew
 have HK1 : Hid (∀ w2, Below w1.drew.heap.size w1.drew w2 → ∀ j, j < 8 → w2.cell? ⟨g, a * 8 + j, none⟩ = some (bscell r j) ∧ w2.frozen? ⟨g, a * 8 + j, none⟩ = false) := Lib.hid (fun w2 hb2 => HC1.out w2 (h1d.next hb2))
 have HB1 : Hid (∀ w2, Below w1.drew.heap.size w1.drew w2 → _) := Lib.hid (fun w2 hb2 => (h1d.next hb2).box.c3)
 go_region_law (go_simp; go_at_call 59; refine (bsAdd_ok r b _ (by omega)).mono ?_; rintro e v1 ⟨rfl, hb1⟩; obtain ⟨t0, t1, t2⟩ := HB1.out _ hb1; have z0 := (HK1.out _ hb1 0 (by decide)).1; have z1 := (HK1.out _ hb1 1 (by decide)).1; have z2 := (HK1.out _ hb1 2 (by decide)).1; have z3 := (HK1.out _ hb1 3 (by decide)).1; have z4 := (HK1.out _ hb1 4 (by decide)).1; have z5 := (HK1.out _ hb1 5 (by decide)).1; have z6 := (HK1.out _ hb1 6 (by decide)).1; have z7 := (HK1.out _ hb1 7 (by decide)).1; have y0 := (HK1.out _ hb1 0 (by decide)).2; have y1 := (HK1.out _ hb1 1 (by decide)).2; have y2 := (HK1.out _ hb1 2 (by decide)).2; have y3 := (HK1.out _ hb1 3 (by decide)).2; have y4 := (HK1.out _ hb1 4 (by decide)).2; have y5 := (HK1.out _ hb1 5 (by decide)).2; have y6 := (HK1.out _ hb1 6 (by decide)).2; have y7 := (HK1.out _ hb1 7 (by decide)).2; simp only [Nat.add_zero] at z0 y0)
 all_goals
  have h1' := h1d.next hb1
  have hput := HP1.out v1 h1'
  have hg1 := setRun_grown (g := g) (o := a * 8) ((List.range 8).map (bscell (r ||| 2 ^ b))) (grown_any (below_grown (((Below.refl w1.heap.size w1).drew).trans hb1)) (some g))
  obtain ⟨X1, hX⟩ : ∃ X, setRun v1 g (a * 8) ((List.range 8).map (bscell (r ||| 2 ^ b))) = X := ⟨_, rfl⟩
  rw [hX] at hput hg1
  replace hX : ((((((((v1.setCell ⟨g, a * 8, none⟩ (.int .u64 (Bs.wd (r ||| 2 ^ b) 0 : Nat))).setCell ⟨g, a * 8 + 1, none⟩ (.int .u64 (Bs.wd (r ||| 2 ^ b) 1 : Nat))).setCell ⟨g, a * 8 + 2, none⟩ (.int .u64 (Bs.wd (r ||| 2 ^ b) 2 : Nat))).setCell ⟨g, a * 8 + 3, none⟩ (.int .u64 (Bs.wd (r ||| 2 ^ b) 3 : Nat))).setCell ⟨g, a * 8 + 4, none⟩ (.int .u64 (Bs.wd (r ||| 2 ^ b) 4 : Nat))).setCell ⟨g, a * 8 + 5, none⟩ (.int .u64 (Bs.wd (r ||| 2 ^ b) 5 : Nat))).setCell ⟨g, a * 8 + 6, none⟩ (.int .u64 (Bs.wd (r ||| 2 ^ b) 6 : Nat))).setCell ⟨g, a * 8 + 7, none⟩ (.int .u64 (Bs.wd (r ||| 2 ^ b) 7 : Nat))) = X1 := hX
  rw [hX]
  clear hX z0 z1 z2 z3 z4 z5 z6 z7 y0 y1 y2 y3 y4 y5 y6 y7 t0 t1 t2 e0 e1 e2 a0 a1 a2 a3 a4 a5 a6 a7
  have h2 := hput
  clear hput HP1 HC1 HK1 HB1 h1'
  have hcs := HC2.out X1 h2
  obtain ⟨e0, e1, e2⟩ := h2.box.c3
  have a0 : X1.cell? ⟨g, b * 8, none⟩ = some (.int .u64 (Bs.wd s 0 : Nat)) := (hcs 0 (by decide)).1
  have a1 : X1.cell? ⟨g, b * 8 + 1, none⟩ = some (.int .u64 (Bs.wd s 1 : Nat)) := (hcs 1 (by decide)).1
  have a2 : X1.cell? ⟨g, b * 8 + 2, none⟩ = some (.int .u64 (Bs.wd s 2 : Nat)) := (hcs 2 (by decide)).1
  have a3 : X1.cell? ⟨g, b * 8 + 3, none⟩ = some (.int .u64 (Bs.wd s 3 : Nat)) := (hcs 3 (by decide)).1
  have a4 : X1.cell? ⟨g, b * 8 + 4, none⟩ = some (.int .u64 (Bs.wd s 4 : Nat)) := (hcs 4 (by decide)).1
  have a5 : X1.cell? ⟨g, b * 8 + 5, none⟩ = some (.int .u64 (Bs.wd s 5 : Nat)) := (hcs 5 (by decide)).1
  have a6 : X1.cell? ⟨g, b * 8 + 6, none⟩ = some (.int .u64 (Bs.wd s 6 : Nat)) := (hcs 6 (by decide)).1
  have a7 : X1.cell? ⟨g, b * 8 + 7, none⟩ = some (.int .u64 (Bs.wd s 7 : Nat)) := (hcs 7 (by decide)).1
  clear hcs
  go_wp2_with fail
  have h2d : GO X1.drew base g bg n cp R1 edges := h2.next (Below.refl _ _).drew
  have HK2 : Hid (∀ w2, Below X1.drew.heap.size X1.drew w2 → ∀ j, j < 8 → w2.cell? ⟨g, b * 8 + j, none⟩ = some (bscell s j) ∧ w2.frozen? ⟨g, b * 8 + j, none⟩ = false) := Lib.hid (fun w2 hb2 => HC2.out w2 (h2d.next hb2))
  have HB2 : Hid (∀ w2, Below X1.drew.heap.size X1.drew w2 → _) := Lib.hid (fun w2 hb2 => (h2d.next hb2).box.c3)
  go_region_law (go_simp; go_at_call 59; refine (bsAdd_ok s a _ (by omega)).mono ?_; rintro e v2 ⟨rfl, hb2⟩; obtain ⟨t0, t1, t2⟩ := HB2.out _ hb2; have z0 := (HK2.out _ hb2 0 (by decide)).1; have z1 := (HK2.out _ hb2 1 (by decide)).1; have z2 := (HK2.out _ hb2 2 (by decide)).1; have z3 := (HK2.out _ hb2 3 (by decide)).1; have z4 := (HK2.out _ hb2 4 (by decide)).1; have z5 := (HK2.out _ hb2 5 (by decide)).1; have z6 := (HK2.out _ hb2 6 (by decide)).1; have z7 := (HK2.out _ hb2 7 (by decide)).1; have y0 := (HK2.out _ hb2 0 (by decide)).2; have y1 := (HK2.out _ hb2 1 (by decide)).2; have y2 := (HK2.out _ hb2 2 (by decide)).2; have y3 := (HK2.out _ hb2 3 (by decide)).2; have y4 := (HK2.out _ hb2 4 (by decide)).2; have y5 := (HK2.out _ hb2 5 (by decide)).2; have y6 := (HK2.out _ hb2 6 (by decide)).2; have y7 := (HK2.out _ hb2 7 (by decide)).2; simp only [Nat.add_zero] at z0 y0)
  all_goals
   have h2' := h2d.next hb2
   have hput := HP2.out v2 h2'
   have hg2 := setRun_grown (g := g) (o := b * 8) ((List.range 8).map (bscell (s ||| 2 ^ a))) (grown_any (below_grown (((Below.refl X1.heap.size X1).drew).trans hb2)) (some g))
   obtain ⟨X2, hX⟩ : ∃ X, setRun v2 g (b * 8) ((List.range 8).map (bscell (s ||| 2 ^ a))) = X := ⟨_, rfl⟩
   rw [hX] at hput hg2
   replace hX : ((((((((v2.setCell ⟨g, b * 8, none⟩ (.int .u64 (Bs.wd (s ||| 2 ^ a) 0 : Nat))).setCell ⟨g, b * 8 + 1, none⟩ (.int .u64 (Bs.wd (s ||| 2 ^ a) 1 : Nat))).setCell ⟨g, b * 8 + 2, none⟩ (.int .u64 (Bs.wd (s ||| 2 ^ a) 2 : Nat))).setCell ⟨g, b * 8 + 3, none⟩ (.int .u64 (Bs.wd (s ||| 2 ^ a) 3 : Nat))).setCell ⟨g, b * 8 + 4, none⟩ (.int .u64 (Bs.wd (s ||| 2 ^ a) 4 : Nat))).setCell ⟨g, b * 8 + 5, none⟩ (.int .u64 (Bs.wd (s ||| 2 ^ a) 5 : Nat))).setCell ⟨g, b * 8 + 6, none⟩ (.int .u64 (Bs.wd (s ||| 2 ^ a) 6 : Nat))).setCell ⟨g, b * 8 + 7, none⟩ (.int .u64 (Bs.wd (s ||| 2 ^ a) 7 : Nat))) = X2 := hX
   rw [hX]
   clear hX z0 z1 z2 z3 z4 z5 z6 z7 y0 y1 y2 y3 y4 y5 y6 y7 t0 t1 t2 e0 e1 e2 a0 a1 a2 a3 a4 a5 a6 a7
   obtain ⟨e0, e1, e2⟩ := hput.box.c3
   have f2 := hput.box.frozen 2
   go_wp2_with fail
   go_ret
   exact ⟨rfl, hput.arc _, X2, ((grown_any (below_grown hb0) (some g)).trans hg1).trans hg2, grown_set _ _ _ _⟩
set_option maxHeartbeats 8000000 in
theorem ghAdd_busy (base g bg n cp a b : Nat) (R : List Nat) (edges : Int) (w : World) (h : GO w base g bg n cp R edges) (ha : a < n) (hb : b < n) (hab : a ≠ b) (hn : n ≤ 512) (hold : (Dg.row R a).testBit b = true) :
  Calls Tryd.prog 31 #[gp bg, .int .i64 a, .int .i64 b] w fun e w' => e = .returned (.int .i64 11) ∧ Below w.heap.size w w' := by
 have hl := h.len
 have haR : a < R.length := by omega
 have hbR : b < R.length := by omega
 have kV := ghValid_ok bg _ cp R edges w h.gg
 have kA := ghHas_ok bg _ cp R edges a w h.gg
 have kB := ghHas_ok bg _ cp R edges b w h.gg
 rw [inR_nat, decide_eq_true haR] at kA
 rw [inR_nat, decide_eq_true hbR] at kB
 rw [row_at haR] at hold
 have kH := bsHas_ok R[a] b w (by omega)
 rw [hold] at kH
 clear hold
 have hcs := h.cells haR
 generalize R[a] = r at *
 obtain ⟨e0, e1, e2⟩ := h.box.c3
 have a0 : w.cell? ⟨g, a * 8, none⟩ = some (.int .u64 (Bs.wd r 0 : Nat)) := (hcs 0 (by decide)).1
 have a1 : w.cell? ⟨g, a * 8 + 1, none⟩ = some (.int .u64 (Bs.wd r 1 : Nat)) := (hcs 1 (by decide)).1
 have a2 : w.cell? ⟨g, a * 8 + 2, none⟩ = some (.int .u64 (Bs.wd r 2 : Nat)) := (hcs 2 (by decide)).1
 have a3 : w.cell? ⟨g, a * 8 + 3, none⟩ = some (.int .u64 (Bs.wd r 3 : Nat)) := (hcs 3 (by decide)).1
 have a4 : w.cell? ⟨g, a * 8 + 4, none⟩ = some (.int .u64 (Bs.wd r 4 : Nat)) := (hcs 4 (by decide)).1
 have a5 : w.cell? ⟨g, a * 8 + 5, none⟩ = some (.int .u64 (Bs.wd r 5 : Nat)) := (hcs 5 (by decide)).1
 have a6 : w.cell? ⟨g, a * 8 + 6, none⟩ = some (.int .u64 (Bs.wd r 6 : Nat)) := (hcs 6 (by decide)).1
 have a7 : w.cell? ⟨g, a * 8 + 7, none⟩ = some (.int .u64 (Bs.wd r 7 : Nat)) := (hcs 7 (by decide)).1
 clear hcs
 have x0 : (0 : Int) ≤ (a : Int) := by omega
 have x1 : (a : Int) < (n : Int) := by omega
 have q0 : ((a : Int) == (b : Int)) = false := by simpa using (by omega : ¬ ((a : Int) = (b : Int)))
 clear hl haR hbR hab
 go_enter Tryd.func31, Tryd.ntmps31
 go_wp2_with fail
 refine kV.mono ?_
 rintro e w1 ⟨rfl, rfl⟩
 go_wp2_with fail
 refine kA.mono ?_
 rintro e w1 ⟨rfl, rfl⟩
 go_wp2_with fail
 refine kB.mono ?_
 rintro e w1 ⟨rfl, rfl⟩
 go_wp2_with fail
 refine kH.mono ?_
 rintro e w1 ⟨rfl, hb0⟩
 go_wp2_with fail
 go_ret
 exact ⟨rfl, hb0⟩
def badE (R : List Nat) (a b : Int) : Bool := !inR R a || !inR R b || decide (a = b)
set_option maxHeartbeats 8000000 in
theorem ghAdd_arg (bg : Nat) (A : Option Addr) (c : Nat) (R : List Nat) (edges : Int) (a b : Int) (w : World) (h : GG w bg A c R edges) (hbad : badE R a b = true) :
  Calls Tryd.prog 31 #[gp bg, .int .i64 a, .int .i64 b] w fun e w' => e = .returned (.int .i64 2) ∧ w = w' := by
 have kV := ghValid_ok bg A c R edges w h
 have kA := ghHas_ok bg A c R edges a w h
 have kB := ghHas_ok bg A c R edges b w h
 unfold badE at hbad
 cases hA : inR R a with
 | false =>
  rw [hA] at kA
  go_enter Tryd.func31, Tryd.ntmps31
  go_wp2_with fail
  refine kV.mono ?_
  rintro e w1 ⟨rfl, rfl⟩
  go_wp2_with fail
  refine kA.mono ?_
  rintro e w1 ⟨rfl, rfl⟩
  go_wp2_with fail
  go_ret
  exact ⟨rfl, rfl⟩
 | true =>
  rw [hA] at kA
  cases hB : inR R b with
  | false =>
   rw [hB] at kB
   go_enter Tryd.func31, Tryd.ntmps31
   go_wp2_with fail
   refine kV.mono ?_
   rintro e w1 ⟨rfl, rfl⟩
   go_wp2_with fail
   refine kA.mono ?_
   rintro e w1 ⟨rfl, rfl⟩
   go_wp2_with fail
   refine kB.mono ?_
   rintro e w1 ⟨rfl, rfl⟩
   go_wp2_with fail
   go_ret
   exact ⟨rfl, rfl⟩
  | true =>
   rw [hB] at kB
   rw [hA, hB] at hbad
   have hab : a = b := of_decide_eq_true (by simpa using hbad)
   have q0 : (a == b) = true := by simpa using hab
   clear hbad hab
   go_enter Tryd.func31, Tryd.ntmps31
   go_wp2_with fail
   refine kV.mono ?_
   rintro e w1 ⟨rfl, rfl⟩
   go_wp2_with fail
   refine kA.mono ?_
   rintro e w1 ⟨rfl, rfl⟩
   go_wp2_with fail
   refine kB.mono ?_
   rintro e w1 ⟨rfl, rfl⟩
   go_wp2_with fail
   go_ret
   exact ⟨rfl, rfl⟩
end Go.Proofs.YtjoomgojnpcbeaaDoor
end
