/- A bundle of texts: Fo2, Fo3, Fo4, Fo5, Fo6, Fo7, Fo8, Fo9. -/
import Derived.Test.YtceobfigfmnacaaDoorH05
import Derived.Test.YtceobfigfmnacaaDoorH06
import Derived.Test.YtceobfigfmnacaaDoorH04
section
namespace Go.Proofs.YtceobfigfmnacaaDoor
open Go Go.RowKit
set_option maxRecDepth 100000
namespace M
end M
end Go.Proofs.YtceobfigfmnacaaDoor
end

section
namespace Go.Proofs.YtceobfigfmnacaaDoor
open Go Go.RowKit
set_option maxRecDepth 100000
theorem Sl.one_at {α : Type} {cell : α → Nat → Value} {w : World} {B : Nat} {A : Option Addr} {xs : List α} {k : Nat} (h : Sl 1 cell w B A xs) (hk : k < xs.length) : ∃ ad, A = some ad ∧ (ad.add k).block < B ∧ w.cell? (ad.add k) = some (cell xs[k] 0) := by
  obtain ⟨ad, e, hb, hc⟩ := h k hk
  exact ⟨ad, e, by rw [add_block]; exact hb, by simpa using hc 0 (by omega)⟩
set_option maxHeartbeats 8000000 in
theorem rSame_any (A B : Option Addr) (ac bc : Nat) (a b : List Int) (w : World) (hA : Sl 1 icell w w.heap.size A a) (hB' : Sl 1 icell w w.heap.size B b) (ha : a.length ≤ 1000000) :
    Calls Tryd.prog 22 #[.slice A a.length ac, .slice B b.length bc] w fun e w' => e = .returned (.bool (decide (a = b))) ∧ Below w.heap.size w w' := by
  obtain ⟨r, hr⟩ : ∃ r, decide (a = b) = r := ⟨_, rfl⟩
  rw [hr]
  have HR := Lib.hid hr
  clear hr
  by_cases hl : a.length = b.length
  · have q : ((a.length : Int) != (b.length : Int)) = false := by simp; omega
    have HN : Hid (∀ k (h1 : k < a.length) (h2 : k < b.length), a[k] ≠ b[k] → false = r) := Lib.hid (fun k h1 h2 h => by
      rw [← HR.out]; symm
      rw [decide_eq_false_iff_not]
      intro e
      subst e
      exact h rfl)
    have HY : Hid ((∀ k (h1 : k < a.length) (h2 : k < b.length), a[k] = b[k]) → true = r) := Lib.hid (fun h => by
      rw [← HR.out]; symm
      rw [decide_eq_true_eq]
      exact List.ext_getElem hl h)
    go_enter Tryd.func22, Tryd.ntmps22
    go_wp2_with fail
    go_loopw [5] (fun i wr => ∃ k : Nat, k ≤ a.length ∧ i = .int .i64 k ∧ Below w.heap.size w wr ∧ Hid (∀ j (h1 : j < a.length) (h2 : j < b.length), j < k → a[j] = b[j])) (fun i _ => a.length - (intOf i).toNat)
    case atStart => exact ⟨0, Nat.zero_le _, rfl, Below.refl _ _, Lib.hid (fun j _ _ h => absurd h (by omega))⟩
    case round =>
      clear q
      obtain ⟨k, hk, rfl, hB, HK⟩ := hrel
      by_cases hlt : k < a.length
      · have hlt2 : k < b.length := by omega
        obtain ⟨la, rfl, hlb, a0⟩ := ((hA.below hB).more hB.size).one_at hlt
        obtain ⟨lb, rfl, hlb2, b0⟩ := ((hB'.below hB).more hB.size).one_at hlt2
        have l1 : (la.add k).block < wr.heap.size := by first | exact hlb | (rw [add_block]; exact hlb)
        have l2 : (lb.add k).block < wr.heap.size := by first | exact hlb2 | (rw [add_block]; exact hlb2)
        simp only [icell] at a0 b0
        have HNk := Lib.hid (HN.out k hlt hlt2)
        have HK2 : Hid (a[k] = b[k] → ∀ j (h1 : j < a.length) (h2 : j < b.length), j < k + 1 → a[j] = b[j]) := Lib.hid (fun h j h1 h2 h3 => by
          by_cases e : j = k
          · subst e; exact h
          · exact HK.out j h1 h2 (by omega))
        generalize a[k] = x at *
        generalize b[k] = y at *
        by_cases he : x = y
        · have q : (x != y) = false := by simp [he]
          have HK3 := Lib.hid (HK2.out he)
          clear he
          go_wp2_with fail
          refine wp_region_kept wr.heap.size wr (by kernel_rfl) (by kernel_rfl) (Below.refl _ _) ?_
          repeat (go_big_quiet_step (fail))
          refine wpQuiet_nil ?_
          rintro w5 ⟨⟨_, hb5⟩, rfl⟩
          go_wp2_with fail
          go_roundw
          case rel => exact ⟨k + 1, hlt, by go_num, after_ hB hb5, HK3⟩
          case measure => simp [intOf]; omega
        · have q : (x != y) = true := by simp [he]
          have HF := Lib.hid (HNk.out he)
          clear he
          go_wp2_with fail
          refine wp_region_kept wr.heap.size wr (by kernel_rfl) (by kernel_rfl) (Below.refl _ _) ?_
          repeat (go_big_quiet_step (fail))
          refine wpQuiet_nil ?_
          rintro w5 ⟨⟨_, hb5⟩, rfl⟩
          go_wp2_with fail
          go_ret
          exact ⟨ret_bool HF.out, after_ hB hb5⟩
      · have HF := Lib.hid (HY.out (fun j h1 h2 => HK.out j h1 h2 (by omega)))
        go_wp2_with fail
        go_ret
        exact ⟨ret_bool HF.out, hB⟩
  · have q : ((a.length : Int) != (b.length : Int)) = true := by simp; omega
    have HF : Hid (false = r) := Lib.hid (by
      rw [← HR.out]; symm
      rw [decide_eq_false_iff_not]
      intro e
      exact hl (by rw [e]))
    clear hl
    go_enter Tryd.func22, Tryd.ntmps22
    go_wp2_with fail
    go_ret
    exact ⟨ret_bool HF.out, Below.refl _ _⟩
end Go.Proofs.YtceobfigfmnacaaDoor
end

section
namespace Go.Proofs.YtceobfigfmnacaaDoor
open Go Go.RowKit
set_option maxRecDepth 100000
def M.chOk46 (c : Int) : Bool := decide (c = 0 ∨ 2 ≤ c ∧ c ≤ 51)
end Go.Proofs.YtceobfigfmnacaaDoor
end

section
namespace Go.Proofs.YtceobfigfmnacaaDoor
open Go Go.RowKit
set_option maxRecDepth 100000
theorem M.mvOk_iff {m : Mv} : M.mvOk m = true ↔ 0 ≤ m.st ∧ m.st ≤ 511 ∧ (m.old = 0 ∨ 2 ≤ m.old ∧ m.old ≤ 51) ∧ (m.new = 0 ∨ 2 ≤ m.new ∧ m.new ≤ 51) ∧ m.old ≠ m.new ∧ 0 ≤ m.tw ∧ m.tw ≤ 255 ∧ 0 ≤ m.cr ∧ m.cr ≤ 255 ∧ 1 ≤ m.wk ∧ m.wk ≤ 52 := by
 unfold M.mvOk
 simp only [Bool.and_eq_true, decide_eq_true_eq, and_assoc]
end Go.Proofs.YtceobfigfmnacaaDoor
end

section
namespace Go.Proofs.YtceobfigfmnacaaDoor
open Go Go.RowKit
set_option maxRecDepth 100000
def mvcell (m : Mv) (j : Nat) : Value := ((mvc m)[j]?).getD (.int .i64 0)
theorem Sl.mv6 {w : World} {B : Nat} {A : Option Addr} {l : List Mv} {k : Nat} (h : Sl 6 mvcell w B A l) (hk : k < l.length) :
    ∃ la, A = some la ∧ (la.add (k * 6)).block < B ∧ w.cell? (la.add (k * 6)) = some (.int .i64 l[k].st) ∧ w.cell? ⟨(la.add (k * 6)).block, (la.add (k * 6)).off + 1, none⟩ = some (.int .i64 l[k].old) ∧ w.cell? ⟨(la.add (k * 6)).block, (la.add (k * 6)).off + 2, none⟩ = some (.int .i64 l[k].new) ∧ w.cell? ⟨(la.add (k * 6)).block, (la.add (k * 6)).off + 3, none⟩ = some (.int .i64 l[k].tw) ∧ w.cell? ⟨(la.add (k * 6)).block, (la.add (k * 6)).off + 4, none⟩ = some (.int .i64 l[k].cr) ∧ w.cell? ⟨(la.add (k * 6)).block, (la.add (k * 6)).off + 5, none⟩ = some (.int .i64 l[k].wk) := by
  obtain ⟨ad, e, hb, h0, hj⟩ := h.sp (by decide) hk
  exact ⟨ad, e, hb, h0, hj 1 (by decide) (by decide), hj 2 (by decide) (by decide), hj 3 (by decide) (by decide), hj 4 (by decide) (by decide), hj 5 (by decide) (by decide)⟩
namespace M
def mvsTo (l : List Mv) (k : Nat) : Prop := ∀ j (hj : j < l.length), j < k → mvOk l[j] = true ∧ ∀ h0 : 0 < j, (l[j - 1]'(by omega)).st < l[j].st
theorem mvsTo_all {l : List Mv} : mvsTo l l.length ↔ (∀ m ∈ l, mvOk m = true) ∧ l.Pairwise fun x y => x.st < y.st := by
  constructor
  · intro h
    refine ⟨fun m hm => ?_, ?_⟩
    · obtain ⟨j, hj, rfl⟩ := List.getElem_of_mem hm
      exact (h j hj hj).1
    · rw [List.pairwise_iff_getElem]
      intro i j hi hj hij
      induction j with
      | zero => omega
      | succ j ih =>
        have h1 := (h (j + 1) hj hj).2 (by omega)
        simp only [Nat.add_sub_cancel] at h1
        by_cases e : i = j
        · subst e; exact h1
        · have := ih (by omega) (by omega); omega
  · rintro ⟨h1, h2⟩ j hj _
    refine ⟨h1 _ (List.getElem_mem hj), fun h0 => ?_⟩
    exact List.pairwise_iff_getElem.1 h2 (j - 1) j (by omega) hj (by omega)
theorem mvsTo_no {l : List Mv} {k : Nat} (hk : k < l.length) (h : ¬ (mvOk l[k] = true ∧ ∀ h0 : 0 < k, (l[k - 1]'(by omega)).st < l[k].st)) : ¬ mvsOk l := fun h2 => h ((mvsTo_all.2 h2.2) k hk hk)
theorem mvsTo_yes {l : List Mv} {k : Nat} (h : mvsTo l k) (hk : k < l.length) (h2 : mvOk l[k] = true) (h3 : ∀ h0 : 0 < k, (l[k - 1]'(by omega)).st < l[k].st) : mvsTo l (k + 1) := fun j hj hlt => by
  by_cases e : j = k
  · subst e; exact ⟨h2, h3⟩
  · exact h j hj (by omega)
end M
end Go.Proofs.YtceobfigfmnacaaDoor
end

section
namespace Go.Proofs.YtceobfigfmnacaaDoor
open Go Go.RowKit
set_option maxRecDepth 100000
def M.errIs (ps : List P5) (l : List Mv) (er : Int) : Prop := (M.mvsOk l ∧ ps.length ≤ 20000 ∧ er = 0) ∨ (M.mvsOk l ∧ 20000 < ps.length ∧ er = 7) ∨ (¬ M.mvsOk l ∧ er = 2)
end Go.Proofs.YtceobfigfmnacaaDoor
end

section
namespace Go.Proofs.YtceobfigfmnacaaDoor
open Go Go.RowKit
set_option maxRecDepth 100000
structure SLc where
  A : Option Addr
  c : Nat
  xs : List Int
def slcell (s : SLc) (_ : Nat) : Value := .slice s.A s.xs.length s.c
theorem sl_one (s : SLc) (j : Nat) : (slcell s j).oneCell' = true := rfl
structure LL (w : World) (A : Option Addr) (ls : List SLc) : Prop where
  outer : Sl 1 slcell w w.heap.size A ls
  inner : ∀ s ∈ ls, Sl 1 icell w w.heap.size s.A s.xs
theorem LL.next {w w' : World} {A : Option Addr} {ls : List SLc} (h : LL w A ls) (hb : Below w.heap.size w w') : LL w' A ls := ⟨(h.outer.below hb).more hb.size, fun s hs => ((h.inner s hs).below hb).more hb.size⟩
set_option maxHeartbeats 4000000 in
theorem few_any (PA : Option Addr) (pc np : Nat) (LA : Option Addr) (lc nl : Nat) (w : World) : Calls Tryd.prog 14 #[.slice PA np pc, .slice LA nl lc] w fun e w' => e = .returned (.bool (decide (np ≤ 40) && decide (nl ≤ 9))) ∧ w = w' := by
  obtain ⟨r, hr⟩ : ∃ r, decide (nl ≤ 9) = r := ⟨_, rfl⟩
  have q1 : decide ((nl : Int) ≤ 9) = r := by rw [← hr, decide_eq_decide]; omega
  rw [hr]
  by_cases h : np ≤ 40
  · have q0 : decide ((np : Int) ≤ 40) = true := decide_eq_true (by omega)
    rw [decide_eq_true h]
    go_enter Tryd.func14, Tryd.ntmps14
    go_wp2_with fail
    go_ret
    exact ⟨rfl, rfl⟩
  · have q0 : decide ((np : Int) ≤ 40) = false := decide_eq_false (by omega)
    rw [decide_eq_false h]
    go_enter Tryd.func14, Tryd.ntmps14
    go_wp2_with fail
    go_ret
    exact ⟨rfl, rfl⟩
set_option maxHeartbeats 8000000 in
theorem rSameLists_any (A B : Option Addr) (ac bc : Nat) (us vs : List SLc) (w : World) (hA : LL w A us) (hB' : LL w B vs) (hl : us.length ≤ 1000000) (hi : ∀ s ∈ us, s.xs.length ≤ 1000000) :
    Calls Tryd.prog 21 #[.slice A us.length ac, .slice B vs.length bc] w fun e w' => e = .returned (.bool (decide (us.map (·.xs) = vs.map (·.xs)))) ∧ Below w.heap.size w w' := by
  obtain ⟨r, hr⟩ : ∃ r, decide (us.map (·.xs) = vs.map (·.xs)) = r := ⟨_, rfl⟩
  rw [hr]
  have HR := Lib.hid hr
  clear hr
  by_cases hle : us.length = vs.length
  · have q : ((us.length : Int) != (vs.length : Int)) = false := by simp; omega
    have HN : Hid (∀ k (h1 : k < us.length) (h2 : k < vs.length), us[k].xs ≠ vs[k].xs → false = r) := Lib.hid (fun k h1 h2 h => by
      rw [← HR.out]; symm
      rw [decide_eq_false_iff_not]
      intro e
      have := congrArg (fun l => l[k]?) e
      simp only [List.getElem?_map, List.getElem?_eq_getElem h1, List.getElem?_eq_getElem h2, Option.map_some, Option.some.injEq] at this
      exact h this)
    have HY : Hid ((∀ k (h1 : k < us.length) (h2 : k < vs.length), us[k].xs = vs[k].xs) → true = r) := Lib.hid (fun h => by
      rw [← HR.out]; symm
      rw [decide_eq_true_eq]
      exact List.ext_getElem (by simpa using hle) (fun k h1 h2 => by simpa using h k (by simpa using h1) (by simpa using h2)))
    go_enter Tryd.func21, Tryd.ntmps21
    go_wp2_with fail
    go_loopw [5] (fun i wr => ∃ k : Nat, k ≤ us.length ∧ i = .int .i64 k ∧ Below w.heap.size w wr ∧ Hid (∀ j (h1 : j < us.length) (h2 : j < vs.length), j < k → us[j].xs = vs[j].xs)) (fun i _ => us.length - (intOf i).toNat)
    case atStart => exact ⟨0, Nat.zero_le _, rfl, Below.refl _ _, Lib.hid (fun j _ _ h => absurd h (by omega))⟩
    case round =>
      obtain ⟨k, hk, rfl, hBr, HE⟩ := hrel
      by_cases hlt : k < us.length
      · have hlt2 : k < vs.length := by omega
        have gA := hA.next hBr
        have gB := hB'.next hBr
        obtain ⟨la, hla, hlb, a0⟩ := gA.outer.one_at hlt
        obtain ⟨lb, hlb2, hlb3, b0⟩ := gB.outer.one_at hlt2
        replace a0 : wr.cell? (la.add k) = some (.slice us[k].A us[k].xs.length us[k].c) := a0
        replace b0 : wr.cell? (lb.add k) = some (.slice vs[k].A vs[k].xs.length vs[k].c) := b0
        have x0 : (0 : Int) ≤ (k : Int) := by omega
        have x1 : (k : Int) < (us.length : Int) := by omega
        have x2 : (k : Int) < (vs.length : Int) := by omega
        have q0 : decide ((k : Int) < (us.length : Int)) = true := decide_eq_true x1
        have iA := gA.inner _ (List.getElem_mem hlt)
        have iB := gB.inner _ (List.getElem_mem hlt2)
        have il := hi _ (List.getElem_mem hlt)
        have HN2 := Lib.hid (HN.out k hlt hlt2)
        have HS : Hid (us[k].xs = vs[k].xs → ∀ j (h1 : j < us.length) (h2 : j < vs.length), j < k + 1 → us[j].xs = vs[j].xs) := Lib.hid (fun h j h1 h2 h3 => by
          by_cases e : j = k
          · subst e; exact h
          · exact HE.out j h1 h2 (by omega))
        clear HE
        obtain ⟨z, hz⟩ : ∃ z, decide (us[k].xs = vs[k].xs) = z := ⟨_, rfl⟩
        have kS : Hid (∀ u : Kept wr.heap.size wr, Calls Tryd.prog 22 #[.slice us[k].A us[k].xs.length us[k].c, .slice vs[k].A vs[k].xs.length vs[k].c] u.val fun e w' => e = .returned (.bool z) ∧ Below u.val.heap.size u.val w') := Lib.hid (fun u => by rw [← hz]; exact rSame_any _ _ _ _ _ _ u.val ((iA.below u.h).more u.h.size) ((iB.below u.h).more u.h.size) il)
        have HZ := Lib.hid hz
        clear hz
        generalize us[k] = sa at *
        generalize vs[k] = sb at *
        subst hla
        subst hlb2
        cases z with
        | false =>
          have HF := Lib.hid (HN2.out (fun e => by have := HZ.out; rw [decide_eq_true e] at this; cases this))
          clear HN2 HS
          go_wp2_with fail
          refine wp_region_kept wr.heap.size wr (by kernel_rfl) (by kernel_rfl) (Below.refl _ _) ?_
          repeat (go_big_quiet_step ((go_at_call 22; exact Kept.calls (Nat.le_refl _) (kS.out _))))
          refine wpQuiet_nil ?_
          rintro w5 ⟨⟨w5x, hb5⟩, hw5⟩
          dsimp only at hw5
          subst hw5
          go_wp2_with fail
          go_ret
          exact ⟨by rw [← HF.out]; rfl, after_ hBr hb5⟩
        | true =>
          have HE := Lib.hid (HS.out (of_decide_eq_true HZ.out))
          clear HN2 HS
          go_wp2_with fail
          refine wp_region_kept wr.heap.size wr (by kernel_rfl) (by kernel_rfl) (Below.refl _ _) ?_
          repeat (go_big_quiet_step ((go_at_call 22; exact Kept.calls (Nat.le_refl _) (kS.out _))))
          refine wpQuiet_nil ?_
          rintro w5 ⟨⟨w5x, hb5⟩, hw5⟩
          dsimp only at hw5
          subst hw5
          go_wp2_with fail
          go_roundw
          case rel => exact ⟨k + 1, hlt, by go_num, after_ hBr hb5, HE⟩
          case measure => simp [intOf]; omega
      · obtain rfl : k = us.length := by omega
        have HF := Lib.hid (HY.out (fun j h1 h2 => HE.out j h1 h2 h1))
        have q0 : decide ((us.length : Int) < (us.length : Int)) = false := decide_eq_false (by omega)
        go_wp2_with fail
        go_ret
        exact ⟨by rw [← HF.out]; rfl, hBr⟩
  · have q : ((us.length : Int) != (vs.length : Int)) = true := by simp; omega
    have HF : Hid (false = r) := Lib.hid (by
      rw [← HR.out]; symm
      rw [decide_eq_false_iff_not]
      intro e
      exact hle (by simpa using congrArg List.length e))
    go_enter Tryd.func21, Tryd.ntmps21
    go_wp2_with fail
    go_ret
    exact ⟨by rw [← HF.out]; rfl, Below.refl _ _⟩
end Go.Proofs.YtceobfigfmnacaaDoor
end

section
namespace Go.Proofs.YtceobfigfmnacaaDoor
open Go Go.RowKit
set_option maxRecDepth 100000
namespace M
end M
end Go.Proofs.YtceobfigfmnacaaDoor
end
