/- Layer 10: the cell with an index; the people of some cells. -/
import Derived.Test.YtohkbblfcjmmnaaGreatDoorCells
import Derived.Maps.OwnOps
import Derived.DeepKeys4
import Derived.MapViews
import Derived.Carry
namespace Go.Proofs.YtohkbblfcjmmnaaGreatDoor
open Go Go.RowKit Go.Maps
set_option maxRecDepth 100000

theorem wrap_small {z : Int} (h : -4611686018427387904 ≤ z) (h2 : z ≤ 4611686018427387904) : IntKind.i64.wrap z = z := by
  unfold IntKind.wrap
  simp [IntKind.bits, IntKind.signed]
  omega

set_option maxHeartbeats 4000000 in
theorem cellAt_ok (W H : Int) (GA PA : Option Addr) (gl gc pl pc : Nat) (i : Nat) (w : World) (hW : 1 ≤ W ∧ W ≤ 64) (hi : (i : Int) ≤ 1000000) :
    Calls Tryz.prog 50 #[tv W H GA PA gl gc pl pc, .int .i64 i] w fun e w' => e = .returned (cv (M.cx W i) (M.cy W i)) ∧ Below w.heap.size w w' := by
  obtain ⟨V, HW, x0, x1, hB, hs⟩ := boxes2 w #[.int .i64 W, .int .i64 H, .slice GA gl gc, .slice PA pl pc] 24 #[.int .i64 0, .int .i64 0] 60
  have e1 : (i : Int).tmod W = M.cx W i := by unfold M.cx; exact Int.tmod_eq_emod_of_nonneg (by omega)
  have hcy : 0 ≤ M.cy W i ∧ M.cy W i ≤ 1000000 := by
    unfold M.cy
    have := Int.ediv_nonneg (a := (i : Int)) (b := W) (by omega) (by omega)
    have := Int.ediv_le_self (a := (i : Int)) W (by omega)
    omega
  have e2 : IntKind.i64.wrap ((i : Int) / W) = M.cy W i := wrap_small (z := M.cy W i) (by omega) (by omega)
  have E1 := Lib.hid e1
  have E2 := Lib.hid e2
  have HS := Lib.hid hs
  clear e1 e2 hs hcy
  obtain ⟨c0, c1, c2, c3⟩ := x0.c4
  clear c1 c2 c3
  have D0 : V.drew.cell? ⟨w.heap.size, 0, none⟩ = some (.int .i64 W) := c0
  have hW0 : W ≠ 0 := by omega
  have hne : w.heap.size ≠ w.heap.size + 1 := by omega
  have D1 : ∀ u v, ((V.drew.setCell ⟨w.heap.size + 1, 0, none⟩ u).setCell ⟨w.heap.size + 1, 1, none⟩ v).cell? ⟨w.heap.size, 0, none⟩ = some (.int .i64 W) := fun u v => ((x0.set_other (p := ⟨w.heap.size + 1, 0, none⟩) hne u).set_other (p := ⟨w.heap.size + 1, 1, none⟩) hne v).c4.1
  have f0 : V.drew.frozen? ⟨w.heap.size + 1, 0, none⟩ = false := x1.frozen 0
  have f1 : V.drew.frozen? ⟨w.heap.size + 1, 1, none⟩ = false := x1.frozen 1
  have f2 := x1.frozen 0
  have f3 := x1.frozen 1
  obtain ⟨g0, g1⟩ := x1.c2
  have G0 : V.drew.cell? ⟨w.heap.size + 1, 0, none⟩ = some (.int .i64 0) := g0
  have G1 : V.drew.cell? ⟨w.heap.size + 1, 1, none⟩ = some (.int .i64 0) := g1
  go_enter Tryz.func50, Tryz.ntmps50
  go_wp2_with fail
  rw [HW.out]
  go_region_held3 (fun w' => w'.cell? ⟨w.heap.size, 0, none⟩ = some (.int .i64 W)) (first | with_reducible exact D0 | with_reducible exact c0 | exact D1 _ _) (fail)
  all_goals
    rw [E1.out, E2.out]
    have z := (x1.set 0 (.int .i64 (M.cx W i))).set 1 (.int .i64 (M.cy W i))
    obtain ⟨z0, z1⟩ := z.c2
    have Z0 : ((V.drew.setCell ⟨w.heap.size + 1, 0, none⟩ (.int .i64 (M.cx W i))).setCell ⟨w.heap.size + 1, 1, none⟩ (.int .i64 (M.cy W i))).cell? ⟨w.heap.size + 1, 0, none⟩ = some (.int .i64 (M.cx W i)) := z0
    have Z1 : ((V.drew.setCell ⟨w.heap.size + 1, 0, none⟩ (.int .i64 (M.cx W i))).setCell ⟨w.heap.size + 1, 1, none⟩ (.int .i64 (M.cy W i))).cell? ⟨w.heap.size + 1, 1, none⟩ = some (.int .i64 (M.cy W i)) := z1
    go_wp2_with fail
    refine bodyPost_ret (v := cv (M.cx W i) (M.cy W i)) ?_ rfl ⟨rfl, ?_⟩
    · simp [results, Tryz.results50, go_sem, z0, z1]
    · exact (hB.drew.setCell (p := ⟨w.heap.size + 1, 0, none⟩) (by dsimp only; omega) _).setCell (p := ⟨w.heap.size + 1, 1, none⟩) (by dsimp only; omega) _

/-! ### The map of the cells that were counted -/
theorem laidOutA : laidOutB Tryz.prog = true := by kernel_rfl
theorem rowCell : (60 : TypeId) < Tryz.prog.types.size := of_decide_eq_true (by kernel_rfl)
theorem cellsCell : Tryz.prog.cellsOf 60 = 2 := by kernel_rfl
theorem deepCell : Tryz.prog.keyTypeAt (Tryz.prog.types.size + 1) 60 = true := by kernel_rfl
theorem wideCell : (match Tryz.prog.underlying 60 with | some (.array _ _) | some (.struct _) => true | _ => false) = true := by rw [Tryz.underlying60]
theorem cellKeyed : Keyed Tryz.prog 60 := Keyed.of_law (deep_law_laid laidOutA (m := 2) (by omega) rowCell (by kernel_rfl) wideCell)
theorem keyTypeCell : Tryz.prog.keyType 60 = true := by kernel_rfl
theorem cellsInt1 : Tryz.prog.cellsOf 3 = 1 := by kernel_rfl
theorem int_wf {z : Int} (h : 0 ≤ z ∧ z ≤ 1000000) : (Lit.int .i64 z).wf = true := by
  simp [Lit.wf, IntKind.min, IntKind.max, IntKind.bits, IntKind.signed]
  omega
theorem cell_key (x y : Int) (hx : 0 ≤ x ∧ x ≤ 1000000) (hy : 0 ≤ y ∧ y ≤ 1000000) : ∃ kl, keyOf Tryz.prog 60 (cv x y) = some kl := by
  obtain ⟨m, hm⟩ : ∃ m, Tryz.prog.types.size + 1 = m + 2 := by
    obtain ⟨k, hk⟩ := Nat.exists_eq_add_of_lt rowCell
    exact ⟨_ + k, by rw [hk]⟩
  have hf : (cv x y).formed Tryz.prog 60 = true := by unfold cv; simp [Value.formed, Tryz.underlying60, cellsCell]
  have h1 := int_wf hx
  have h2 := int_wf hy
  have hk : Tryz.prog.keyLits (m + 2) 60 [.int .i64 x, .int .i64 y] = some [.int .i64 x, .int .i64 y] := by
    simp [Program.keyLits, Tryz.underlying60, Tryz.underlying3, cellsCell, cellsInt1, h1, h2]
  refine ⟨.string (keyBytes [.int .i64 x, .int .i64 y]), ?_⟩
  unfold keyOf
  rw [Tryz.underlying60, keyTypeCell, hf, hm]
  simp only [Bool.and_self, if_true]
  rw [show (cv x y).cells.toList = [.int .i64 x, .int .i64 y] from rfl, hk]
  rfl
theorem zeroBool (w : World) : (zeroValue 4).run Tryz.prog w = .ok (.bool false) w := by kernel_rfl

theorem wpList_lookup_own_bool {H : Type} {P : Program} (w : World) {ops : Array Oper} {rest : List Oper} {o : Oper} {a : Act} {Q : Exit → Act → World → Prop}
    (hg : o.guard = none) (m x : Operand) (t : TypeId) (hop : o.op = Op.lookup t m x false)
    (k e : TypeId) (K : Keyed P k) (ht : P.underlying t = some (.map k e)) (he : P.underlying e = some .bool) (hz : (zeroValue e).run P w = .ok (.bool false) w) (b n : Nat) (D : DataW H)
    (hm : a.eval m = .map (some b)) (hown : w.ownsMap P k (plainElem P e) b n D) (key : Value) (kl : Lit) (hx : a.eval x = key) (hkey : keyOf P k key = some kl) (r : Bool) (hr : D.atKey kl (.lit (.bool false)) = .lit (.bool r))
    (hK : wpList P ops Q rest (a.put o.dst (.bool r)) w) :
    wpList P ops Q (o :: rest) a w := by
  refine wpList_plain hg fun K' hK' => ?_
  obtain ⟨v, ps, hrun, hv⟩ := hown.lookup K ht hz (plainElem_bool he false) hkey
  rw [hr] at hv
  obtain rfl : v = .bool r := by
    unfold plainElem at hv
    rw [he] at hv
    cases v <;> simp at hv
    exact congrArg Value.bool hv.1
  unfold Oper.wp
  simp [execOp, hop, hm, hx, hrun, Result.andThen]
  exact hK' _ _ hK

/-- The people of the first k cells, each counted once. -/
def M.totTo (P : List Int) (l : List Int) : Nat → Int
  | 0 => 0
  | k + 1 => M.totTo P l k + match l[k]? with
    | some x => if x ∈ l.take k then 0 else P.getD x.toNat 0
    | none => 0
def M.total (P : List Int) (l : List Int) : Int := M.totTo P l l.length
theorem M.totTo_succ {P l : List Int} {k : Nat} (h : k < l.length) : M.totTo P l (k + 1) = M.totTo P l k + if l[k] ∈ l.take k then 0 else P.getD l[k].toNat 0 := by
  simp only [M.totTo, List.getElem?_eq_getElem h]
theorem M.totTo_bd {P l : List Int} (hP : ∀ g ∈ P, 0 ≤ g ∧ g ≤ 1000000) (k : Nat) : 0 ≤ M.totTo P l k ∧ M.totTo P l k ≤ 1000000 * k := by
  induction k with
  | zero => simp [M.totTo]
  | succ k ih =>
    have hg : ∀ j, 0 ≤ P.getD j 0 ∧ P.getD j 0 ≤ 1000000 := fun j => by
      by_cases hj : j < P.length
      · have := hP P[j] (List.getElem_mem hj)
        simpa [hj] using this
      · simp [Nat.le_of_not_lt hj]
    simp only [M.totTo]
    split
    · split
      · omega
      · rename_i x _ _
        have := hg x.toNat
        omega
    · omega
end Go.Proofs.YtohkbblfcjmmnaaGreatDoor
