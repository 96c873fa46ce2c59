/- Proved: for every terrain, list of stations and two ints, the law returns true and its arguments read as before; the one variable that is read, antenna.quadrants, is tied to the program's text (conditions: none). -/
import Derived.Test.YtciolgmljpamlaaGreatDoorCards
import Derived.Test.YtciolgmljpamlaaGreatDoorTie
import Derived.Test.YtciolgmljpamlaaGreatDoorC49
import Derived.Test.YtciolgmljpamlaaGreatDoorC46
import Derived.Test.YtciolgmljpamlaaGreatDoorC47
import Derived.Test.YtciolgmljpamlaaGreatDoorC43
import Derived.Deep.DeepHandedRow
import Derived.Lib.LaidTab
namespace Go.Proofs.YtciolgmljpamlaaGreatDoor.lawHolds
open Go.ChangeShapes Go.WideShapes Go.ChangeAt Go.RowKit
set_option maxRecDepth 100000
theorem own : ownKnob Tryz.prog.godebug = none := by kernel_rfl
theorem gTab : Tryz.prog.globalNamed "bandplan/antenna.quadrants" = some 1 := by kernel_rfl
theorem gTabType : (Tryz.prog.globals[1]?).map (·.type) = some 225 := by kernel_rfl
theorem tab {W : World} (h : laidMetH Tryz.prog Rows.constraintHoldsRow.laid W) : Tab W := by
  have h2 : laidMet Tryz.prog [("bandplan/antenna.quadrants", .agg (([[1, 0, 0, 1], [0, 1, (-1), 0], [(-1), 0, 0, (-1)], [0, (-1), 1, 0]] : List (List Int)).map fun zs => Lib.tabData .i64 zs))] W := h
  obtain ⟨ps, ⟨g', t', cs, fuel, p, q, hg', ht', hvar, hd, _, _⟩, _⟩ := h2
  obtain rfl := Option.some.inj (gTab.symm.trans hg')
  obtain rfl := Option.some.inj (gTabType.symm.trans ht')
  have r := cells_of_tab2 Tryz.underlying225 Tryz.underlying189 Tryz.underlying3 (by kernel_rfl) (by kernel_rfl) (by kernel_rfl) hd
  exact ⟨(World.var?_cell gTab hvar 0).trans (Array.getElem?_toList.symm.trans (cells_of_row2 (r 0 (by decide)) (j := 0) (by decide) rfl)), (World.var?_cell gTab hvar 1).trans (Array.getElem?_toList.symm.trans (cells_of_row2 (r 0 (by decide)) (j := 1) (by decide) rfl)), (World.var?_cell gTab hvar 2).trans (Array.getElem?_toList.symm.trans (cells_of_row2 (r 0 (by decide)) (j := 2) (by decide) rfl)), (World.var?_cell gTab hvar 3).trans (Array.getElem?_toList.symm.trans (cells_of_row2 (r 0 (by decide)) (j := 3) (by decide) rfl)), (World.var?_cell gTab hvar 4).trans (Array.getElem?_toList.symm.trans (cells_of_row2 (r 1 (by decide)) (j := 0) (by decide) rfl)), (World.var?_cell gTab hvar 5).trans (Array.getElem?_toList.symm.trans (cells_of_row2 (r 1 (by decide)) (j := 1) (by decide) rfl)), (World.var?_cell gTab hvar 6).trans (Array.getElem?_toList.symm.trans (cells_of_row2 (r 1 (by decide)) (j := 2) (by decide) rfl)), (World.var?_cell gTab hvar 7).trans (Array.getElem?_toList.symm.trans (cells_of_row2 (r 1 (by decide)) (j := 3) (by decide) rfl)), (World.var?_cell gTab hvar 8).trans (Array.getElem?_toList.symm.trans (cells_of_row2 (r 2 (by decide)) (j := 0) (by decide) rfl)), (World.var?_cell gTab hvar 9).trans (Array.getElem?_toList.symm.trans (cells_of_row2 (r 2 (by decide)) (j := 1) (by decide) rfl)), (World.var?_cell gTab hvar 10).trans (Array.getElem?_toList.symm.trans (cells_of_row2 (r 2 (by decide)) (j := 2) (by decide) rfl)), (World.var?_cell gTab hvar 11).trans (Array.getElem?_toList.symm.trans (cells_of_row2 (r 2 (by decide)) (j := 3) (by decide) rfl)), (World.var?_cell gTab hvar 12).trans (Array.getElem?_toList.symm.trans (cells_of_row2 (r 3 (by decide)) (j := 0) (by decide) rfl)), (World.var?_cell gTab hvar 13).trans (Array.getElem?_toList.symm.trans (cells_of_row2 (r 3 (by decide)) (j := 1) (by decide) rfl)), (World.var?_cell gTab hvar 14).trans (Array.getElem?_toList.symm.trans (cells_of_row2 (r 3 (by decide)) (j := 2) (by decide) rfl)), (World.var?_cell gTab hvar 15).trans (Array.getElem?_toList.symm.trans (cells_of_row2 (r 3 (by decide)) (j := 3) (by decide) rfl))⟩
theorem contract (H : Type) (enc : TypeId × Value → H) (W : World) (base : Nat) (args : Array Value) (ds gs : List (DataW H)) (before : List MemPlace)
    (hval : ∀ (j : Nat) t v, Tryz.f9.params[j]? = some t → args[j]? = some v → Value.okWide Tryz.prog W .any base t v)
    (hW : DataW.Whole enc Tryz.prog Tryz.f9.params.toList Rows.constraintHoldsSpec.vars false W args.toList ds gs before) (hL : laidMetH Tryz.prog Rows.constraintHoldsRow.laid W) :
    Calls Tryz.prog 9 args W fun e W' => ∃ v, e = .returned v ∧ Rows.constraintHoldsSpec.post enc Tryz.prog Tryz.f9 false true false false W args v W' := by
  have hW' := hW
  obtain ⟨p, q, hA0, hV, rfl, hfz, hnd⟩ := hW
  have hA : DataW.TrodAll enc Tryz.prog W 0 (fun _ => true) true Tryz.f9.params.toList args.toList ds p := hA0
  rw [Tryz.params9] at hA hval
  obtain ⟨v0, vs0, d0, ds0, p0, q0, hargs, rfl, rfl, h0, r0⟩ := trodAll_cons hA
  obtain ⟨v1, vs1, d1, ds1, p1, q1, rfl, rfl, rfl, h1, r1⟩ := trodAll_cons r0
  obtain ⟨v2, vs2, d2, ds2, p2, q2, rfl, rfl, rfl, h2, r2⟩ := trodAll_cons r1
  obtain ⟨v3, vs3, d3, ds3, p3, q3, rfl, rfl, rfl, h3, r3⟩ := trodAll_cons r2
  obtain ⟨rfl, rfl, rfl⟩ := trodAll_nil r3
  obtain rfl : args = #[v0, v1, v2, v3] := by cases args; simp_all
  obtain ⟨rfl, rfl⟩ := trodVars_none hV
  obtain ⟨W0, H0, GA, PA, gc, pc, G, P, rfl, hg, hp, hgl, hpl⟩ := open_terrain (hval 0 24 v0 rfl rfl) h0
  obtain ⟨LA, lc, es, rfl, hLs, hPs, hPe⟩ := open_stationsB (hval 1 25 v1 rfl rfl) h1
  obtain ⟨b, rfl, rfl, rfl, wb⟩ := open_int Tryz.underlying3 (hval 2 3 v2 rfl rfl) h2
  obtain ⟨lf, rfl, rfl, rfl, wlf⟩ := open_int Tryz.underlying3 (hval 3 3 v3 rfl rfl) h3
  clear hA0
  refine (constraintHolds_walk W0 H0 GA PA gc pc G P LA lc es b lf W (tab hL) hg hp hLs hPs).mono fun e W' ⟨he, hb⟩ => ?_
  subst he
  exact ⟨_, rfl, law_post (tb := 4) (by kernel_rfl) (by kernel_rfl) rfl rfl (by kernel_rfl) Tryz.underlying4 hW' hb⟩
noncomputable def laidWorld (os : Os) : World :=
  { World.holding Tryz.prog os ⟨#[], #[], []⟩ with heap := (World.holding Tryz.prog os ⟨#[], #[], []⟩).heap.modify 1 fun
      | .cells _ t frozen => .cells #[.int .i64 1, .int .i64 0, .int .i64 0, .int .i64 1, .int .i64 0, .int .i64 1, .int .i64 (-1), .int .i64 0, .int .i64 (-1), .int .i64 0, .int .i64 0, .int .i64 (-1), .int .i64 0, .int .i64 (-1), .int .i64 1, .int .i64 0] t frozen
      | o => o }
theorem laid_met (os : Os) : laidMet Tryz.prog Rows.constraintHoldsRow.laid ((laidWorld os).forCall (fun _ _ => 0) ⟨#[], #[.agg #[.int .i64 0, .int .i64 0, .slice none 0 0, .slice none 0 0], .slice none 0 0, .int .i64 0, .int .i64 0], []⟩).memory :=
  laidMet_of_run' 8 (by kernel_rfl) (by kernel_rfl)
theorem reads (os : Os) {H : Type} (enc : TypeId × Value → H) : ∃ places, DataW.whole enc Tryz.prog ((laidWorld os).forCall (fun _ _ => 0) ⟨#[], #[.agg #[.int .i64 0, .int .i64 0, .slice none 0 0, .slice none 0 0], .slice none 0 0, .int .i64 0, .int .i64 0], []⟩).memory Tryz.f9.params.toList Rows.constraintHoldsSpec.vars false (#[.agg #[.int .i64 0, .int .i64 0, .slice none 0 0, .slice none 0 0], .slice none 0 0, .int .i64 0, .int .i64 0] : Array Value).toList 8 = some ([.agg [.lit (.int .i64 0), .lit (.int .i64 0), .nil, .nil], .nil, .lit (.int .i64 0), .lit (.int .i64 0)], [], places) :=
  ⟨[], by kernel_rfl⟩
set_option maxRecDepth 100000 in
theorem lifted (os : Os) (started : os.Started) (H : Type) (enc : TypeId × Value → H) (F : Stop.Interp) :
    ReturnsInHanded {} Tryz.checked os 9 .any ((OpenSpec.ofChange Rows.constraintHoldsSpec).preRow enc Tryz.prog Tryz.f9 Rows.constraintHoldsRow.domain false Rows.constraintHoldsRow.laid) (((OpenSpec.ofChange Rows.constraintHoldsSpec).at F).post enc Tryz.prog Tryz.f9 false true false false) := by
  obtain ⟨places, hx⟩ := reads os enc
  refine returnsInHanded_of_row (C := Tryz.checked) (s := OpenSpec.ofChange Rows.constraintHoldsSpec) own started (by kernel_rfl) Tryz.func9
    (witness_row_at (enc := enc) (C := Tryz.checked) false (laidWorld os) #[.agg #[.int .i64 0, .int .i64 0, .slice none 0 0, .slice none 0 0], .slice none 0 0, .int .i64 0, .int .i64 0] rfl (by kernel_rfl) (by kernel_rfl) (by kernel_rfl)
      (OpenSpec.preRow_of_cond 8 hx (by kernel_rfl) (fun k hk => by cases hk) (by kernel_rfl) (laid_met os))) ?_
  intro W base args ds gs before hval hW _ _ _ hL _ _
  exact contract H enc W base args ds gs before hval hW hL
theorem said : Rows.ConstraintHoldsSaid :=
  OpenClaim.holds_of_cond 9 Tryz.f9 rfl rfl rfl rfl rfl rfl rfl ⟨rfl, rfl, rfl, rfl, rfl⟩ rfl rfl rfl rfl rfl (by kernel_rfl) Tryz.func9 (by kernel_rfl)
    (of_decide_eq_true (by kernel_rfl)) (by unfold Func.isWrapper; first | (rw [if_pos (by decide +kernel)]; kernel_rfl) | (rw [if_neg (by decide +kernel)]; exact ⟨rfl, rfl⟩))
    (fun os started H enc _ F => by rw [OpenClaim.pre_eq_preRow]; exact lifted os started H enc F)
theorem plain (f : FuncId) (fn : Func) (hf : Tryz.pinned.checked.prog.funcNamed "bandplan/bandplanlaw16.ConstraintHolds" = some f) (hfn : Tryz.pinned.checked.prog.funcs[f]? = some fn) :
    false = Tryz.pinned.checked.prog.looks [] ∧ ∀ (j : Nat) t, fn.params[j]? = some t → Tryz.pinned.checked.prog.wantsStandIn t = false := by
  obtain rfl : f = 9 := Option.some.inj ((show Tryz.prog.funcNamed "bandplan/bandplanlaw16.ConstraintHolds" = some 9 by kernel_rfl).symm.trans hf) |>.symm
  obtain rfl : fn = Tryz.f9 := (Option.some.inj (Tryz.func9.symm.trans hfn)).symm
  refine ⟨by kernel_rfl, fun j t ht => ?_⟩
  rw [Tryz.params9] at ht
  have hm : t ∈ [24, 25, 3, 3] := by simpa using Array.mem_of_getElem? ht
  have hall : ([24, 25, 3, 3].all fun u => !Tryz.prog.wantsStandIn u) = true := by kernel_rfl
  exact (show Tryz.prog.wantsStandIn t = false by simpa using List.all_eq_true.1 hall t hm)
theorem card : Rows.ConstraintHoldsCardSaid :=
  Claim7.holds_tied_plain_at .later [] _ _ _ _ said (fun _ h => by cases h) (by kernel_rfl) (fun _ h => by cases h) constraintHolds_row_tie rfl ⟨rfl, rfl⟩ (by kernel_rfl) rfl plain (by kernel_rfl)
#print axioms card
end Go.Proofs.YtciolgmljpamlaaGreatDoor.lawHolds
