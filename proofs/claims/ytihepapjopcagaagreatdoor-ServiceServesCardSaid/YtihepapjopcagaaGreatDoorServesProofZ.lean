/- Proved: for every terrain, list of stations and cell, the law returns true and its arguments read as before; the variables that are read, antenna.quadrants and tables of math/bits and strconv, are tied to the program's text (conditions: none). -/
import Derived.Test.YtihepapjopcagaaGreatDoorCards
import Derived.Test.YtihepapjopcagaaGreatDoorTie
import Derived.Test.YtihepapjopcagaaGreatDoorB23
import Derived.Test.YtihepapjopcagaaGreatDoorB20
import Derived.Deep.DeepHandedRow
import Derived.Lib.LaidTab
namespace Go.Proofs.YtihepapjopcagaaGreatDoor.lawServes
open Go.ChangeShapes Go.WideShapes Go.ChangeAt Go.RowKit
set_option maxRecDepth 100000

theorem own : ownKnob Tryz.prog.godebug = none := by kernel_rfl
theorem laidTail {P : Program} {x : String × DataW Unit} {r : List (String × DataW Unit)} {w : World} (h : laidMet P (x :: r) w) : laidMet P r w := by
  obtain ⟨ps, ⟨g, t, cs, fuel, p, q, _, _, _, _, hq, rfl⟩, hn, hall⟩ := h
  exact ⟨q, hq, (List.nodup_append.1 hn).2.1, fun b off hm => hall b off (List.mem_append_right _ hm)⟩
theorem laidAll {W : World} (h : laidMetH Tryz.prog Rows.serviceServesRow.laid W) : laidMet Tryz.prog [("math/bits.deBruijn32tab", Lib.tabData .u8 [0, 1, 28, 2, 29, 14, 24, 3, 30, 22, 20, 15, 25, 17, 4, 8, 31, 27, 13, 23, 21, 19, 16, 7, 26, 12, 18, 6, 11, 5, 10, 9]), ("math/bits.deBruijn64tab", Lib.tabData .u8 [0, 1, 56, 2, 57, 49, 28, 3, 61, 58, 42, 50, 38, 29, 17, 4, 62, 47, 59, 36, 45, 43, 51, 22, 53, 39, 33, 30, 24, 18, 12, 5, 63, 55, 48, 27, 60, 41, 37, 16, 46, 35, 44, 21, 52, 32, 23, 11, 54, 26, 40, 15, 34, 20, 31, 10, 25, 14, 19, 9, 13, 8, 7, 6]), ("internal/strconv.uint64pow10", Lib.tabData .u64 [1, 10, 100, 1000, 10000, 100000, 1000000, 10000000, 100000000, 1000000000, 10000000000, 100000000000, 1000000000000, 10000000000000, 100000000000000, 1000000000000000, 10000000000000000, 100000000000000000, 1000000000000000000, 10000000000000000000]), ("bandplan/antenna.quadrants", .agg (([[1, 0, 0, 1], [0, 1, (-1), 0], [(-1), 0, 0, (-1)], [0, (-1), 1, 0]] : List (List Int)).map fun zs => Lib.tabData .i64 zs))] W := h
theorem gtab : Tryz.prog.globalNamed "bandplan/antenna.quadrants" = some 0 := by kernel_rfl
theorem gtabType : (Tryz.prog.globals[0]?).map (·.type) = some 130 := by kernel_rfl
theorem tab {W : World} (h : laidMetH Tryz.prog Rows.serviceServesRow.laid W) : Tab W := by
  have h2 := laidTail (laidTail (laidTail (laidAll h)))
  obtain ⟨ps, ⟨g', t', cs, fuel, p, q, hg', ht', hvar, hd, _, _⟩, _⟩ := h2
  obtain rfl := Option.some.inj (gtab.symm.trans hg')
  obtain rfl := Option.some.inj (gtabType.symm.trans ht')
  have r := cells_of_tab2 Tryz.underlying130 Tryz.underlying123 Tryz.underlying3 (by kernel_rfl) (by kernel_rfl) (by kernel_rfl) hd
  exact ⟨(World.var?_cell gtab hvar 0).trans (Array.getElem?_toList.symm.trans (cells_of_row2 (r 0 (by decide)) (j := 0) (by decide) rfl)), (World.var?_cell gtab hvar 1).trans (Array.getElem?_toList.symm.trans (cells_of_row2 (r 0 (by decide)) (j := 1) (by decide) rfl)), (World.var?_cell gtab hvar 2).trans (Array.getElem?_toList.symm.trans (cells_of_row2 (r 0 (by decide)) (j := 2) (by decide) rfl)), (World.var?_cell gtab hvar 3).trans (Array.getElem?_toList.symm.trans (cells_of_row2 (r 0 (by decide)) (j := 3) (by decide) rfl)), (World.var?_cell gtab hvar 4).trans (Array.getElem?_toList.symm.trans (cells_of_row2 (r 1 (by decide)) (j := 0) (by decide) rfl)), (World.var?_cell gtab hvar 5).trans (Array.getElem?_toList.symm.trans (cells_of_row2 (r 1 (by decide)) (j := 1) (by decide) rfl)), (World.var?_cell gtab hvar 6).trans (Array.getElem?_toList.symm.trans (cells_of_row2 (r 1 (by decide)) (j := 2) (by decide) rfl)), (World.var?_cell gtab hvar 7).trans (Array.getElem?_toList.symm.trans (cells_of_row2 (r 1 (by decide)) (j := 3) (by decide) rfl)), (World.var?_cell gtab hvar 8).trans (Array.getElem?_toList.symm.trans (cells_of_row2 (r 2 (by decide)) (j := 0) (by decide) rfl)), (World.var?_cell gtab hvar 9).trans (Array.getElem?_toList.symm.trans (cells_of_row2 (r 2 (by decide)) (j := 1) (by decide) rfl)), (World.var?_cell gtab hvar 10).trans (Array.getElem?_toList.symm.trans (cells_of_row2 (r 2 (by decide)) (j := 2) (by decide) rfl)), (World.var?_cell gtab hvar 11).trans (Array.getElem?_toList.symm.trans (cells_of_row2 (r 2 (by decide)) (j := 3) (by decide) rfl)), (World.var?_cell gtab hvar 12).trans (Array.getElem?_toList.symm.trans (cells_of_row2 (r 3 (by decide)) (j := 0) (by decide) rfl)), (World.var?_cell gtab hvar 13).trans (Array.getElem?_toList.symm.trans (cells_of_row2 (r 3 (by decide)) (j := 1) (by decide) rfl)), (World.var?_cell gtab hvar 14).trans (Array.getElem?_toList.symm.trans (cells_of_row2 (r 3 (by decide)) (j := 2) (by decide) rfl)), (World.var?_cell gtab hvar 15).trans (Array.getElem?_toList.symm.trans (cells_of_row2 (r 3 (by decide)) (j := 3) (by decide) rfl))⟩
theorem gtab64 : Tryz.prog.globalNamed "math/bits.deBruijn64tab" = some 1 := by kernel_rfl
theorem gtab64Type : (Tryz.prog.globals[1]?).map (·.type) = some 148 := by kernel_rfl
theorem tab64 {W : World} (h : laidMetH Tryz.prog Rows.serviceServesRow.laid W) : Tab64 W := by
  have h2 := Lib.tabIs_of_head gtab64 gtab64Type Tryz.underlying148 Tryz.underlying5 (by kernel_rfl) (by kernel_rfl) (laidTail (laidAll h))
  have key : ∀ j : Fin 64, ([0, 1, 56, 2, 57, 49, 28, 3, 61, 58, 42, 50, 38, 29, 17, 4, 62, 47, 59, 36, 45, 43, 51, 22, 53, 39, 33, 30, 24, 18, 12, 5, 63, 55, 48, 27, 60, 41, 37, 16, 46, 35, 44, 21, 52, 32, 23, 11, 54, 26, 40, 15, 34, 20, 31, 10, 25, 14, 19, 9, 13, 8, 7, 6] : List Int).getD j.1 0 = ((Lib.deBruijn64tab.getD j.1 0 : Nat) : Int) := by decide
  intro j hj
  have hj' : j < 64 := hj
  rw [h2.cell gtab64 j hj', key ⟨j, hj'⟩]
theorem contract (H : Type) (enc : TypeId × Value → H) (W : World) (base : Nat) (args : Array Value) (ds gs : List (DataW H)) (before : List MemPlace)
    (hval : ∀ (j : Nat) t v, Tryz.f7.params[j]? = some t → args[j]? = some v → Value.okWide Tryz.prog W .any base t v)
    (hW : DataW.Whole enc Tryz.prog Tryz.f7.params.toList Rows.serviceServesSpec.vars false W args.toList ds gs before) (hL : laidMetH Tryz.prog Rows.serviceServesRow.laid W) :
    Calls Tryz.prog 7 args W fun e W' => ∃ v, e = .returned v ∧ Rows.serviceServesSpec.post enc Tryz.prog Tryz.f7 false true false false W args v W' := by
  have hW' := hW
  obtain ⟨p, q, hA0, hV, rfl, hfz, hnd⟩ := hW
  have hA : DataW.TrodAll enc Tryz.prog W 0 (fun _ => true) true Tryz.f7.params.toList args.toList ds p := hA0
  rw [Tryz.params7] at hA hval
  obtain ⟨v0, vs0, d0, ds0, p0, q0, hargs, rfl, rfl, h0, r0⟩ := trodAll_cons hA
  obtain ⟨v1, vs1, d1, ds1, p1, q1, rfl, rfl, rfl, h1, r1⟩ := trodAll_cons r0
  obtain ⟨v2, vs2, d2, ds2, p2, q2, rfl, rfl, rfl, h2, r2⟩ := trodAll_cons r1
  obtain ⟨rfl, rfl, rfl⟩ := trodAll_nil r2
  obtain rfl : args = #[v0, v1, v2] := by cases args; simp_all
  obtain ⟨rfl, rfl⟩ := trodVars_none hV
  obtain ⟨W0, H0, GA, PA, gc, pc, G, P, rfl, hg, hp, _, _⟩ := open_terrain (hval 0 30 v0 rfl rfl) h0
  obtain ⟨LA, lc, es, rfl, hLs, hPs⟩ := open_stations (hval 1 54 v1 rfl rfl) h1
  obtain ⟨ns2, rfl, hl2, _⟩ := open_ints_agg Tryz.underlying36 (by kernel_rfl) (by kernel_rfl) (by kernel_rfl) (hval 2 36 v2 rfl rfl) h2
  obtain ⟨cx, cy, rfl⟩ : ∃ x y, ns2 = [x, y] := by match ns2, hl2 with | [x, y], _ => exact ⟨x, y, rfl⟩
  clear hA0
  refine (serviceServes_walk W0 H0 GA PA gc pc G P LA lc es cx cy W (tab hL) (tab64 hL) hg hp hLs hPs).mono fun e W' ⟨he, hb⟩ => ?_
  subst he
  exact ⟨_, rfl, law_post (tb := 4) (by kernel_rfl) (by kernel_rfl) rfl rfl (by kernel_rfl) Tryz.underlying4 hW' hb⟩

/-- A world for the witness: the settled one, the tables holding what their initialisers lay. -/
def lay (h : Array Obj) (g : Nat) (cs : Array Value) : Array Obj := h.modify g fun
  | .cells _ t frozen => .cells cs t frozen
  | o => o
noncomputable def laidWorld (os : Os) : World := { World.holding Tryz.prog os ⟨#[], #[], []⟩ with heap := (lay (lay (lay (lay (World.holding Tryz.prog os ⟨#[], #[], []⟩).heap 3 #[.int .u8 0, .int .u8 1, .int .u8 28, .int .u8 2, .int .u8 29, .int .u8 14, .int .u8 24, .int .u8 3, .int .u8 30, .int .u8 22, .int .u8 20, .int .u8 15, .int .u8 25, .int .u8 17, .int .u8 4, .int .u8 8, .int .u8 31, .int .u8 27, .int .u8 13, .int .u8 23, .int .u8 21, .int .u8 19, .int .u8 16, .int .u8 7, .int .u8 26, .int .u8 12, .int .u8 18, .int .u8 6, .int .u8 11, .int .u8 5, .int .u8 10, .int .u8 9]) 1 #[.int .u8 0, .int .u8 1, .int .u8 56, .int .u8 2, .int .u8 57, .int .u8 49, .int .u8 28, .int .u8 3, .int .u8 61, .int .u8 58, .int .u8 42, .int .u8 50, .int .u8 38, .int .u8 29, .int .u8 17, .int .u8 4, .int .u8 62, .int .u8 47, .int .u8 59, .int .u8 36, .int .u8 45, .int .u8 43, .int .u8 51, .int .u8 22, .int .u8 53, .int .u8 39, .int .u8 33, .int .u8 30, .int .u8 24, .int .u8 18, .int .u8 12, .int .u8 5, .int .u8 63, .int .u8 55, .int .u8 48, .int .u8 27, .int .u8 60, .int .u8 41, .int .u8 37, .int .u8 16, .int .u8 46, .int .u8 35, .int .u8 44, .int .u8 21, .int .u8 52, .int .u8 32, .int .u8 23, .int .u8 11, .int .u8 54, .int .u8 26, .int .u8 40, .int .u8 15, .int .u8 34, .int .u8 20, .int .u8 31, .int .u8 10, .int .u8 25, .int .u8 14, .int .u8 19, .int .u8 9, .int .u8 13, .int .u8 8, .int .u8 7, .int .u8 6]) 2 #[.int .u64 1, .int .u64 10, .int .u64 100, .int .u64 1000, .int .u64 10000, .int .u64 100000, .int .u64 1000000, .int .u64 10000000, .int .u64 100000000, .int .u64 1000000000, .int .u64 10000000000, .int .u64 100000000000, .int .u64 1000000000000, .int .u64 10000000000000, .int .u64 100000000000000, .int .u64 1000000000000000, .int .u64 10000000000000000, .int .u64 100000000000000000, .int .u64 1000000000000000000, .int .u64 10000000000000000000]) 0 #[.int .i64 1, .int .i64 0, .int .i64 0, .int .i64 1, .int .i64 0, .int .i64 1, .int .i64 (-1), .int .i64 0, .int .i64 (-1), .int .i64 0, .int .i64 0, .int .i64 (-1), .int .i64 0, .int .i64 (-1), .int .i64 1, .int .i64 0]) }
theorem laid_met (os : Os) : laidMet Tryz.prog Rows.serviceServesRow.laid ((laidWorld os).forCall (fun _ _ => 0) ⟨#[], #[.agg #[.int .i64 0, .int .i64 0, .slice none 0 0, .slice none 0 0], .slice none 0 0, .agg #[.int .i64 0, .int .i64 0]], []⟩).memory :=
  laidMet_of_run' 8 (by kernel_rfl) (by kernel_rfl)
theorem reads (os : Os) {H : Type} (enc : TypeId × Value → H) : ∃ places, DataW.whole enc Tryz.prog ((laidWorld os).forCall (fun _ _ => 0) ⟨#[], #[.agg #[.int .i64 0, .int .i64 0, .slice none 0 0, .slice none 0 0], .slice none 0 0, .agg #[.int .i64 0, .int .i64 0]], []⟩).memory Tryz.f7.params.toList Rows.serviceServesSpec.vars false (#[.agg #[.int .i64 0, .int .i64 0, .slice none 0 0, .slice none 0 0], .slice none 0 0, .agg #[.int .i64 0, .int .i64 0]] : Array Value).toList 8 = some ([.agg [.lit (.int .i64 0), .lit (.int .i64 0), .nil, .nil], .nil, .agg [.lit (.int .i64 0), .lit (.int .i64 0)]], [], places) :=
  ⟨[], by kernel_rfl⟩

set_option maxRecDepth 100000 in
theorem lifted (os : Os) (started : os.Started) (H : Type) (enc : TypeId × Value → H) (F : Stop.Interp) :
    ReturnsInHanded {} Tryz.checked os 7 .any ((OpenSpec.ofChange Rows.serviceServesSpec).preRow enc Tryz.prog Tryz.f7 Rows.serviceServesRow.domain false Rows.serviceServesRow.laid) (((OpenSpec.ofChange Rows.serviceServesSpec).at F).post enc Tryz.prog Tryz.f7 false true false false) := by
  obtain ⟨places, hx⟩ := reads os enc
  refine returnsInHanded_of_row (C := Tryz.checked) (s := OpenSpec.ofChange Rows.serviceServesSpec) own started (by kernel_rfl) Tryz.func7
    (witness_row_at (enc := enc) (C := Tryz.checked) false (laidWorld os) #[.agg #[.int .i64 0, .int .i64 0, .slice none 0 0, .slice none 0 0], .slice none 0 0, .agg #[.int .i64 0, .int .i64 0]] rfl (by kernel_rfl) (by kernel_rfl) (by kernel_rfl)
      (OpenSpec.preRow_of_cond 8 hx (by kernel_rfl) (fun k hk => by cases hk) (by kernel_rfl) (laid_met os))) ?_
  intro W base args ds gs before hval hW _ _ _ hL _ _
  exact contract H enc W base args ds gs before hval hW hL

theorem said : Rows.ServiceServesSaid :=
  OpenClaim.holds_of_cond 7 Tryz.f7 rfl rfl rfl rfl rfl rfl rfl ⟨rfl, rfl, rfl, rfl, rfl⟩ rfl rfl rfl rfl rfl (by kernel_rfl) Tryz.func7 (by kernel_rfl)
    (of_decide_eq_true (by kernel_rfl)) (by unfold Func.isWrapper; first | (rw [if_pos (by decide +kernel)]; kernel_rfl) | (rw [if_neg (by decide +kernel)]; exact ⟨rfl, rfl⟩))
    (fun os started H enc _ F => by rw [OpenClaim.pre_eq_preRow]; exact lifted os started H enc F)

theorem plain (f : FuncId) (fn : Func) (hf : Tryz.pinned.checked.prog.funcNamed "bandplan/bandplanlaw14.ServiceServes" = some f) (hfn : Tryz.pinned.checked.prog.funcs[f]? = some fn) :
    false = Tryz.pinned.checked.prog.looks [] ∧ ∀ (j : Nat) t, fn.params[j]? = some t → Tryz.pinned.checked.prog.wantsStandIn t = false := by
  obtain rfl : f = 7 := Option.some.inj ((show Tryz.prog.funcNamed "bandplan/bandplanlaw14.ServiceServes" = some 7 by kernel_rfl).symm.trans hf) |>.symm
  obtain rfl : fn = Tryz.f7 := (Option.some.inj (Tryz.func7.symm.trans hfn)).symm
  refine ⟨by kernel_rfl, fun j t ht => ?_⟩
  rw [Tryz.params7] at ht
  have hm : t ∈ [30, 54, 36] := by simpa using Array.mem_of_getElem? ht
  have hall : ([30, 54, 36].all fun u => !Tryz.prog.wantsStandIn u) = true := by kernel_rfl
  exact (show Tryz.prog.wantsStandIn t = false by simpa using List.all_eq_true.1 hall t hm)

theorem card : Rows.ServiceServesCardSaid :=
  Claim7.holds_tied_plain_at .later [] _ _ _ _ said (fun _ h => by cases h) (by kernel_rfl) (fun _ h => by cases h) serviceServes_row_tie rfl ⟨rfl, rfl⟩ (by kernel_rfl) rfl plain (by kernel_rfl)
#print axioms card
end Go.Proofs.YtihepapjopcagaaGreatDoor.lawServes
