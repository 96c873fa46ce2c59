/- Layer 13: lists of stations; terrain.Has; Find. -/
import Derived.Test.YtohkbblfcjmmnaaGreatDoorStA
namespace Go.Proofs.YtohkbblfcjmmnaaGreatDoor
open Go Go.RowKit
set_option maxRecDepth 100000

/-- A station in memory: the station, and where its pattern lies. -/
structure SE where
  s : St
  A : Option Addr
  c : Nat
def secell (e : SE) (j : Nat) : Value := ((stc e.s e.A e.c)[j]?).getD (.int .i64 0)
theorem se_one (e : SE) (j : Nat) : (secell e j).oneCell' = true := by
  unfold secell
  match j with
  | 0 | 1 | 2 | 3 | 4 | 5 | 6 | 7 => rfl
  | j + 8 => simp; rfl
theorem seInfo : (Tryz.prog.info? 28).map (fun i => (i.zero, i.size, i.bytes)) = some (some (.agg #[.int .i64 0, .int .i64 0, .int .i64 0, .int .i64 0, .int .i64 0, .slice none 0 0, .int .i64 0, .int .i64 0]), 8, 80) := by kernel_rfl
/-- The patterns of stations in memory. -/
def Pats (w : World) (es : List SE) : Prop := ∀ e ∈ es, Sl 1 icell w w.heap.size e.A e.s.pat
theorem Pats.below {w w' : World} {es : List SE} (h : Pats w es) (hb : Below w.heap.size w w') : Pats w' es := fun e he => ((h e he).below hb).more hb.size
theorem Pats.at_ {w : World} {es : List SE} (h : Pats w es) {k : Nat} (hk : k < es.length) : Sl 1 icell w w.heap.size es[k].A es[k].s.pat := h _ (List.getElem_mem hk)
theorem Sl.st8 {w : World} {B : Nat} {LA : Option Addr} {es : List SE} {k : Nat} (h : Sl 8 secell w B LA es) (hk : k < es.length) :
    ∃ la, LA = some la ∧ (la.add (k * 8)).block < B ∧ w.cell? (la.add (k * 8)) = some (.int .i64 es[k].s.id) ∧ w.cell? ⟨(la.add (k * 8)).block, (la.add (k * 8)).off + 1, none⟩ = some (.int .i64 es[k].s.x) ∧ w.cell? ⟨(la.add (k * 8)).block, (la.add (k * 8)).off + 2, none⟩ = some (.int .i64 es[k].s.y)
      ∧ w.cell? ⟨(la.add (k * 8)).block, (la.add (k * 8)).off + 3, none⟩ = some (.int .i64 es[k].s.pw) ∧ w.cell? ⟨(la.add (k * 8)).block, (la.add (k * 8)).off + 4, none⟩ = some (.int .i64 es[k].s.h) ∧ w.cell? ⟨(la.add (k * 8)).block, (la.add (k * 8)).off + 5, none⟩ = some (.slice es[k].A es[k].s.pat.length es[k].c)
      ∧ w.cell? ⟨(la.add (k * 8)).block, (la.add (k * 8)).off + 6, none⟩ = some (.int .i64 es[k].s.band) ∧ w.cell? ⟨(la.add (k * 8)).block, (la.add (k * 8)).off + 7, none⟩ = some (.int .i64 es[k].s.ch) := by
  obtain ⟨la, e, hb, h0, hj⟩ := h.sp (by decide) hk
  exact ⟨la, e, hb, h0, hj 1 (by decide) (by decide), hj 2 (by decide) (by decide), hj 3 (by decide) (by decide), hj 4 (by decide) (by decide), hj 5 (by decide) (by decide), hj 6 (by decide) (by decide), hj 7 (by decide) (by decide)⟩

set_option maxHeartbeats 2000000 in
theorem inside_some (W H : Int) (GA PA : Option Addr) (gl gc pl pc : Nat) (x y : Int) (w : World) :
    Calls Tryz.prog 61 #[tv W H GA PA gl gc pl pc, cv x y] w fun e w' => ∃ b : Bool, e = .returned (.bool b) ∧ Below w.heap.size w w' := by
  have hB0 := (Below.refl w.heap.size w).alloc (Nat.le_refl _) (.cells #[.int .i64 W, .int .i64 H, .slice GA gl gc, .slice PA pl pc] 24)
  have hB1 := hB0.alloc hB0.size (.cells #[.int .i64 x, .int .i64 y] 60)
  go_enter Tryz.func61, Tryz.ntmps61
  go_wp2_with fail
  refine (within_any x 0 _ _).mono ?_
  rintro e w1 ⟨rfl, rfl⟩
  generalize M.isIn x 0 _ = b
  cases b with
  | false =>
    go_wp2_with fail
    go_ret
    exact ⟨false, rfl, hB1⟩
  | true =>
    go_wp2_with fail
    refine (within_any y 0 _ _).mono ?_
    rintro e w1 ⟨rfl, rfl⟩
    generalize M.isIn y 0 _ = q
    go_wp2_with fail
    go_ret
    exact ⟨q, rfl, hB1⟩

set_option maxHeartbeats 4000000 in
theorem has_any (W H : Int) (GA PA : Option Addr) (gc pc : Nat) (G P : List Int) (x y : Int) (w : World) (hg : Sl 1 icell w w.heap.size GA G) (hp : Sl 1 icell w w.heap.size PA P) (hgl : G.length ≤ 9223372036854775806) (hpl : P.length ≤ 9223372036854775806) :
    Calls Tryz.prog 46 #[tv W H GA PA G.length gc P.length pc, cv x y] w fun e w' => e = .returned (.bool (M.has W H G P x y)) ∧ Below w.heap.size w w' := by
  obtain ⟨V, HW, x0, x1, hB, -⟩ := boxes2 w #[.int .i64 W, .int .i64 H, .slice GA G.length gc, .slice PA P.length pc] 24 #[.int .i64 x, .int .i64 y] 60
  have hg1 := (hg.below hB).more hB.size
  have hp1 := (hp.below hB).more hB.size
  by_cases hr : (1 ≤ W ∧ W ≤ 64) ∧ (1 ≤ H ∧ H ≤ 64)
  · obtain ⟨r1, r2⟩ := hr
    obtain ⟨r, hr⟩ : ∃ r, M.has W H G P x y = r := ⟨_, rfl⟩
    have HR := Lib.hid hr
    rw [hr]
    clear hr
    go_enter Tryz.func46, Tryz.ntmps46
    go_wp2_with fail
    rw [HW.out]
    refine (inside_any W H GA PA G.length gc P.length pc x y V r1 r2).mono ?_
    rintro e w1 ⟨rfl, hb1⟩
    have B1 := after_ hB hb1
    cases hi : M.inside W H x y with
    | false =>
      have HF : Hid (false = r) := Lib.hid (by rw [← HR.out]; unfold M.has; rw [hi, Bool.and_false])
      go_wp2_with fail
      go_ret
      exact ⟨ret_bool HF.out, B1⟩
    | true =>
      obtain ⟨c0, c1, c2, c3⟩ := (x0.below hb1).c4
      have HF : Hid (M.tvalid W H G P = r) := Lib.hid (by rw [← HR.out]; unfold M.has; rw [hi, Bool.and_true])
      go_wp2_with fail
      refine (tvalid_any W H GA PA gc pc G P w1 ((hg1.below hb1).more hb1.size) ((hp1.below hb1).more hb1.size) hgl hpl).mono ?_
      rintro e w2 ⟨rfl, hb2⟩
      rw [HF.out]
      go_wp2_with fail
      go_ret
      exact ⟨rfl, after_ B1 hb2⟩
  · have hv : M.tvalid W H G P = false := by
      cases hv : M.tvalid W H G P with
      | false => rfl
      | true => obtain ⟨b1, b2, _⟩ := M.tvalid_iff.1 hv; exact absurd ⟨b1, b2⟩ hr
    have HF : Hid (false = M.has W H G P x y) := Lib.hid (by unfold M.has; rw [hv]; rfl)
    have HV := Lib.hid hv
    clear hv hr
    go_enter Tryz.func46, Tryz.ntmps46
    go_wp2_with fail
    rw [HW.out]
    refine (inside_some W H GA PA G.length gc P.length pc x y V).mono ?_
    rintro e w1 ⟨b, rfl, hb1⟩
    have B1 := after_ hB hb1
    cases b with
    | false =>
      go_wp2_with fail
      go_ret
      exact ⟨ret_bool HF.out, B1⟩
    | true =>
      obtain ⟨c0, c1, c2, c3⟩ := (x0.below hb1).c4
      go_wp2_with fail
      refine (tvalid_any W H GA PA gc pc G P w1 ((hg1.below hb1).more hb1.size) ((hp1.below hb1).more hb1.size) hgl hpl).mono ?_
      rintro e w2 ⟨rfl, hb2⟩
      rw [HV.out]
      go_wp2_with fail
      go_ret
      exact ⟨ret_bool HF.out, after_ B1 hb2⟩

abbrev zst : St := ⟨0, 0, 0, 0, 0, [], 0, 0⟩
/-- A call that returns a station, whose pattern is the call's own, and an error number. -/
def RetStE (w : World) (s : St) (er : Int) (e : Ending) (w' : World) : Prop :=
  ∃ A c, e = .returned (.tuple #[stv s A c, .int .i64 er]) ∧ Sl 1 icell w' w'.heap.size A s.pat ∧ (∀ ad, A = some ad → w.heap.size ≤ ad.block) ∧ Below w.heap.size w w'
/-- The station that Find returns, and the error. -/
def M.find (l : List St) (id : Int) : St × Int := if id < 0 ∨ 511 < id then (zst, 2) else match l.find? (fun s => decide (s.id = id)) with
  | some s => (s, 0)
  | none => (zst, 9)

end Go.Proofs.YtohkbblfcjmmnaaGreatDoor