/- Proved: for every two constraints, the law returns true and its arguments read as before; the one variable that is read, antenna.quadrants, is tied to the program's text (conditions: none). -/
import Derived.Test.YtciolgmljpamlaaGreatDoorCards
import Derived.Test.YtciolgmljpamlaaGreatDoorTie
import Derived.Test.YtciolgmljpamlaaGreatDoorB40
import Derived.Test.YtciolgmljpamlaaGreatDoorB45
import Derived.Test.YtciolgmljpamlaaGreatDoorB46
import Derived.Test.YtciolgmljpamlaaGreatDoorB42
import Derived.Deep.DeepHandedRow
import Derived.Lib.LaidTab
namespace Go.Proofs.YtciolgmljpamlaaGreatDoor.lawJoins
open Go.ChangeShapes Go.WideShapes Go.ChangeAt Go.RowKit
set_option maxRecDepth 100000
theorem own : ownKnob Tryz.prog.godebug = none := by kernel_rfl
theorem gTab : Tryz.prog.globalNamed "bandplan/antenna.quadrants" = some 1 := by kernel_rfl
theorem gTabType : (Tryz.prog.globals[1]?).map (·.type) = some 225 := by kernel_rfl
theorem tab {W : World} (h : laidMetH Tryz.prog Rows.constraintJoinsRow.laid W) : Tab W := by
  have h2 : laidMet Tryz.prog [("bandplan/antenna.quadrants", .agg (([[1, 0, 0, 1], [0, 1, (-1), 0], [(-1), 0, 0, (-1)], [0, (-1), 1, 0]] : List (List Int)).map fun zs => Lib.tabData .i64 zs))] W := h
  obtain ⟨ps, ⟨g', t', cs, fuel, p, q, hg', ht', hvar, hd, _, _⟩, _⟩ := h2
  obtain rfl := Option.some.inj (gTab.symm.trans hg')
  obtain rfl := Option.some.inj (gTabType.symm.trans ht')
  have r := cells_of_tab2 Tryz.underlying225 Tryz.underlying189 Tryz.underlying3 (by kernel_rfl) (by kernel_rfl) (by kernel_rfl) hd
  exact ⟨(World.var?_cell gTab hvar 0).trans (Array.getElem?_toList.symm.trans (cells_of_row2 (r 0 (by decide)) (j := 0) (by decide) rfl)), (World.var?_cell gTab hvar 1).trans (Array.getElem?_toList.symm.trans (cells_of_row2 (r 0 (by decide)) (j := 1) (by decide) rfl)), (World.var?_cell gTab hvar 2).trans (Array.getElem?_toList.symm.trans (cells_of_row2 (r 0 (by decide)) (j := 2) (by decide) rfl)), (World.var?_cell gTab hvar 3).trans (Array.getElem?_toList.symm.trans (cells_of_row2 (r 0 (by decide)) (j := 3) (by decide) rfl)), (World.var?_cell gTab hvar 4).trans (Array.getElem?_toList.symm.trans (cells_of_row2 (r 1 (by decide)) (j := 0) (by decide) rfl)), (World.var?_cell gTab hvar 5).trans (Array.getElem?_toList.symm.trans (cells_of_row2 (r 1 (by decide)) (j := 1) (by decide) rfl)), (World.var?_cell gTab hvar 6).trans (Array.getElem?_toList.symm.trans (cells_of_row2 (r 1 (by decide)) (j := 2) (by decide) rfl)), (World.var?_cell gTab hvar 7).trans (Array.getElem?_toList.symm.trans (cells_of_row2 (r 1 (by decide)) (j := 3) (by decide) rfl)), (World.var?_cell gTab hvar 8).trans (Array.getElem?_toList.symm.trans (cells_of_row2 (r 2 (by decide)) (j := 0) (by decide) rfl)), (World.var?_cell gTab hvar 9).trans (Array.getElem?_toList.symm.trans (cells_of_row2 (r 2 (by decide)) (j := 1) (by decide) rfl)), (World.var?_cell gTab hvar 10).trans (Array.getElem?_toList.symm.trans (cells_of_row2 (r 2 (by decide)) (j := 2) (by decide) rfl)), (World.var?_cell gTab hvar 11).trans (Array.getElem?_toList.symm.trans (cells_of_row2 (r 2 (by decide)) (j := 3) (by decide) rfl)), (World.var?_cell gTab hvar 12).trans (Array.getElem?_toList.symm.trans (cells_of_row2 (r 3 (by decide)) (j := 0) (by decide) rfl)), (World.var?_cell gTab hvar 13).trans (Array.getElem?_toList.symm.trans (cells_of_row2 (r 3 (by decide)) (j := 1) (by decide) rfl)), (World.var?_cell gTab hvar 14).trans (Array.getElem?_toList.symm.trans (cells_of_row2 (r 3 (by decide)) (j := 2) (by decide) rfl)), (World.var?_cell gTab hvar 15).trans (Array.getElem?_toList.symm.trans (cells_of_row2 (r 3 (by decide)) (j := 3) (by decide) rfl))⟩
theorem contract (H : Type) (enc : TypeId × Value → H) (W : World) (base : Nat) (args : Array Value) (ds gs : List (DataW H)) (before : List MemPlace)
    (hval : ∀ (j : Nat) t v, Tryz.f7.params[j]? = some t → args[j]? = some v → Value.okWide Tryz.prog W .any base t v)
    (hW : DataW.Whole enc Tryz.prog Tryz.f7.params.toList Rows.constraintJoinsSpec.vars false W args.toList ds gs before) (hL : laidMetH Tryz.prog Rows.constraintJoinsRow.laid W) :
    Calls Tryz.prog 7 args W fun e W' => ∃ v, e = .returned v ∧ Rows.constraintJoinsSpec.post enc Tryz.prog Tryz.f7 false true false false W args v W' := by
  have hW' := hW
  obtain ⟨p, q, hA0, hV, rfl, hfz, hnd⟩ := hW
  have hA : DataW.TrodAll enc Tryz.prog W 0 (fun _ => true) true Tryz.f7.params.toList args.toList ds p := hA0
  rw [Tryz.params7] at hA hval
  obtain ⟨v0, vs0, d0, ds0, p0, q0, hargs, rfl, rfl, h0, r0⟩ := trodAll_cons hA
  obtain ⟨v1, vs1, d1, ds1, p1, q1, rfl, rfl, rfl, h1, r1⟩ := trodAll_cons r0
  obtain ⟨rfl, rfl, rfl⟩ := trodAll_nil r1
  obtain rfl : args = #[v0, v1] := by cases args; simp_all
  obtain ⟨rfl, rfl⟩ := trodVars_none hV
  obtain ⟨Xa, Ya, Za, xca, yca, zca, pa, la, ca, rfl, hRa, hra1, hra2, hra3, hka⟩ := open_rules2 (hval 0 30 v0 rfl rfl) h0
  obtain ⟨Xb, Yb, Zb, xcb, ycb, zcb, pb, lb, cb, rfl, hRb, hrb1, hrb2, hrb3, hkb⟩ := open_rules2 (hval 1 30 v1 rfl rfl) h1
  clear hA0
  refine (constraintJoins_walk Xa Ya Za Xb Yb Zb xca yca zca xcb ycb zcb pa la ca pb lb cb W (tab hL) hRa hRb hka hkb).mono fun e W' ⟨he, hb⟩ => ?_
  subst he
  exact ⟨_, rfl, law_post (tb := 4) (by kernel_rfl) (by kernel_rfl) rfl rfl (by kernel_rfl) Tryz.underlying4 hW' hb⟩
noncomputable def laidWorld (os : Os) : World :=
  { World.holding Tryz.prog os ⟨#[], #[], []⟩ with heap := (World.holding Tryz.prog os ⟨#[], #[], []⟩).heap.modify 1 fun
      | .cells _ t frozen => .cells #[.int .i64 1, .int .i64 0, .int .i64 0, .int .i64 1, .int .i64 0, .int .i64 1, .int .i64 (-1), .int .i64 0, .int .i64 (-1), .int .i64 0, .int .i64 0, .int .i64 (-1), .int .i64 0, .int .i64 (-1), .int .i64 1, .int .i64 0] t frozen
      | o => o }
theorem laid_met (os : Os) : laidMet Tryz.prog Rows.constraintJoinsRow.laid ((laidWorld os).forCall (fun _ _ => 0) ⟨#[], #[.agg #[.slice none 0 0, .slice none 0 0, .slice none 0 0], .agg #[.slice none 0 0, .slice none 0 0, .slice none 0 0]], []⟩).memory :=
  laidMet_of_run' 8 (by kernel_rfl) (by kernel_rfl)
theorem reads (os : Os) {H : Type} (enc : TypeId × Value → H) : ∃ places, DataW.whole enc Tryz.prog ((laidWorld os).forCall (fun _ _ => 0) ⟨#[], #[.agg #[.slice none 0 0, .slice none 0 0, .slice none 0 0], .agg #[.slice none 0 0, .slice none 0 0, .slice none 0 0]], []⟩).memory Tryz.f7.params.toList Rows.constraintJoinsSpec.vars false (#[.agg #[.slice none 0 0, .slice none 0 0, .slice none 0 0], .agg #[.slice none 0 0, .slice none 0 0, .slice none 0 0]] : Array Value).toList 8 = some ([.agg [.nil, .nil, .nil], .agg [.nil, .nil, .nil]], [], places) :=
  ⟨[], by kernel_rfl⟩
set_option maxRecDepth 100000 in
theorem lifted (os : Os) (started : os.Started) (H : Type) (enc : TypeId × Value → H) (F : Stop.Interp) :
    ReturnsInHanded {} Tryz.checked os 7 .any ((OpenSpec.ofChange Rows.constraintJoinsSpec).preRow enc Tryz.prog Tryz.f7 Rows.constraintJoinsRow.domain false Rows.constraintJoinsRow.laid) (((OpenSpec.ofChange Rows.constraintJoinsSpec).at F).post enc Tryz.prog Tryz.f7 false true false false) := by
  obtain ⟨places, hx⟩ := reads os enc
  refine returnsInHanded_of_row (C := Tryz.checked) (s := OpenSpec.ofChange Rows.constraintJoinsSpec) own started (by kernel_rfl) Tryz.func7
    (witness_row_at (enc := enc) (C := Tryz.checked) false (laidWorld os) #[.agg #[.slice none 0 0, .slice none 0 0, .slice none 0 0], .agg #[.slice none 0 0, .slice none 0 0, .slice none 0 0]] rfl (by kernel_rfl) (by kernel_rfl) (by kernel_rfl)
      (OpenSpec.preRow_of_cond 8 hx (by kernel_rfl) (fun k hk => by cases hk) (by kernel_rfl) (laid_met os))) ?_
  intro W base args ds gs before hval hW _ _ _ hL _ _
  exact contract H enc W base args ds gs before hval hW hL
theorem said : Rows.ConstraintJoinsSaid :=
  OpenClaim.holds_of_cond 7 Tryz.f7 rfl rfl rfl rfl rfl rfl rfl ⟨rfl, rfl, rfl, rfl, rfl⟩ rfl rfl rfl rfl rfl (by kernel_rfl) Tryz.func7 (by kernel_rfl)
    (of_decide_eq_true (by kernel_rfl)) (by unfold Func.isWrapper; first | (rw [if_pos (by decide +kernel)]; kernel_rfl) | (rw [if_neg (by decide +kernel)]; exact ⟨rfl, rfl⟩))
    (fun os started H enc _ F => by rw [OpenClaim.pre_eq_preRow]; exact lifted os started H enc F)
theorem plain (f : FuncId) (fn : Func) (hf : Tryz.pinned.checked.prog.funcNamed "bandplan/bandplanlaw16.ConstraintJoins" = some f) (hfn : Tryz.pinned.checked.prog.funcs[f]? = some fn) :
    false = Tryz.pinned.checked.prog.looks [] ∧ ∀ (j : Nat) t, fn.params[j]? = some t → Tryz.pinned.checked.prog.wantsStandIn t = false := by
  obtain rfl : f = 7 := Option.some.inj ((show Tryz.prog.funcNamed "bandplan/bandplanlaw16.ConstraintJoins" = some 7 by kernel_rfl).symm.trans hf) |>.symm
  obtain rfl : fn = Tryz.f7 := (Option.some.inj (Tryz.func7.symm.trans hfn)).symm
  refine ⟨by kernel_rfl, fun j t ht => ?_⟩
  rw [Tryz.params7] at ht
  have hm : t ∈ [30, 30] := by simpa using Array.mem_of_getElem? ht
  have hall : ([30, 30].all fun u => !Tryz.prog.wantsStandIn u) = true := by kernel_rfl
  exact (show Tryz.prog.wantsStandIn t = false by simpa using List.all_eq_true.1 hall t hm)
theorem card : Rows.ConstraintJoinsCardSaid :=
  Claim7.holds_tied_plain_at .later [] _ _ _ _ said (fun _ h => by cases h) (by kernel_rfl) (fun _ h => by cases h) constraintJoins_row_tie rfl ⟨rfl, rfl⟩ (by kernel_rfl) rfl plain (by kernel_rfl)
#print axioms card
end Go.Proofs.YtciolgmljpamlaaGreatDoor.lawJoins
