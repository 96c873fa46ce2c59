/- A bundle of texts: Gr1. -/
import Derived.Test.YtpkepgcmifdpfaaGreatDoorR08
import Derived.Test.YtpkepgcmifdpfaaGreatDoorR07
import Derived.Test.YtpkepgcmifdpfaaGreatDoorR16
import Derived.Maps.OwnOps
import Derived.Maps.OwnSet
import Derived.Maps.RangeWalk
section
namespace Go.Proofs.YtpkepgcmifdpfaaGreatDoor
open Go Go.RowKit Go.Maps
set_option maxRecDepth 100000
theorem run_makeMapH {P : Program} (t k e : TypeId) (ht : P.underlying t = some (.map k e)) (n : Int) (w : World) : (Instr.makeMap t (some (.int .i64 n))).run P w = .ok (.map (some w.heap.size)) (w.alloc (.map #[] 0)) := by
  simp [Instr.makeMap, run_underlying ht, asInt, asIntOf, Result.andThen]
structure PosD (D : DataW Unit) (l : List Mv) (k : Nat) : Prop where
  map : IsMap D
  hit : ∀ i (hi : i < l.length), i < k → (∀ z, D.atKey (.int .i64 l[i].st) z = .lit (.int .i64 i)) ∧ Maps.has D (.int .i64 l[i].st) = true
  miss : ∀ st, (∀ i (hi : i < l.length), i < k → l[i].st ≠ st) → Maps.has D (.int .i64 st) = false
theorem PosD.start (l : List Mv) : PosD (.map []) l 0 := ⟨isMap_empty, fun i _ h => absurd h (by omega), fun st _ => rfl⟩
theorem PosD.put {D : DataW Unit} {l : List Mv} {k : Nat} (h : PosD D l k) (hp : l.Pairwise fun x y => x.st < y.st) (hk : k < l.length) : PosD (D.put (.int .i64 l[k].st) (.lit (.int .i64 k))) l (k + 1) := by
  have hne : ∀ i (hi : i < l.length), i < k → (Lit.int .i64 l[i].st) ≠ .int .i64 l[k].st := fun i hi hlt e => by
    have := M.mvsOk_inj hp hi hk (by injection e)
    omega
  refine ⟨h.map.put _ _, fun i hi hlt => ?_, fun st hst => ?_⟩
  · by_cases e : i = k
    · subst e
      exact ⟨fun z => atKey_put_same h.map (by simp [WideAt.IsKeyLit]) _ _, has_put_same h.map (by simp [WideAt.IsKeyLit]) _⟩
    · have h2 := h.hit i hi (by omega)
      exact ⟨fun z => (atKey_put_other (hne i hi (by omega)) _ _).trans (h2.1 z), (has_put_other (hne i hi (by omega)) _).trans h2.2⟩
  · rw [has_put_other]
    · exact h.miss st (fun i hi hlt => hst i hi (by omega))
    · intro e
      injection e with _ e
      exact hst k hk (by omega) e.symm
theorem PosD.look {D : DataW Unit} {l : List Mv} (h : PosD D l l.length) (st : Int) : (∃ i, M.idx l st = some i ∧ Maps.has D (.int .i64 st) = true ∧ ∀ z, D.atKey (.int .i64 st) z = .lit (.int .i64 i)) ∨ (M.idx l st = none ∧ Maps.has D (.int .i64 st) = false) := by
  cases e : M.idx l st with
  | none => exact .inr ⟨rfl, h.miss st (fun i hi _ => M.idx_none e hi)⟩
  | some i =>
    obtain ⟨hi, e2⟩ := M.idx_some e
    have := h.hit i hi hi
    rw [e2] at this
    exact .inl ⟨i, rfl, this.2, this.1⟩
theorem mvOk_st {m : Mv} (h : M.mvOk m = true) : 0 ≤ m.st ∧ m.st ≤ 511 := by have := M.mvOk_iff.1 h; exact ⟨this.1, this.2.1⟩
theorem wf64 {x : Int} (h : M.W64 x) : (Lit.int .i64 x).wf = true := by
  unfold M.W64 at h
  simp [Lit.wf, IntKind.min, IntKind.max, IntKind.signed, IntKind.bits]; omega
set_option maxHeartbeats 16000000 in
theorem positions_ok (LA : Option Addr) (lc : Nat) (l : List Mv) (w : World) (hL : Sl 6 mvcell w w.heap.size LA l) (hm : M.mvsOk l) :
    Calls Tryz.prog 96 #[.slice LA l.length lc] w fun e w' => ∃ b D, e = .returned (.map (some b)) ∧ w.heap.size ≤ b ∧ w'.ownsMap Tryz.prog 3 (plainElem (H := Unit) Tryz.prog 3) b l.length D ∧ PosD D l l.length ∧ Below w.heap.size w w' := by
  have hl := hm.1
  have HM := Lib.hid hm
  have hmm := run_makeMapH (P := Tryz.prog) 129 3 3 Tryz.underlying129 (l.length : Int)
  obtain ⟨U, HU⟩ : ∃ U, Hid (w.alloc (.map #[] 0) = U) := ⟨_, Lib.hid rfl⟩
  have hU := HU.out
  have hbU : Below w.heap.size w U := by rw [← hU]; exact (Below.refl _ _).alloc (Nat.le_refl _) _
  have hown : U.ownsMap Tryz.prog 3 (plainElem (H := Unit) Tryz.prog 3) w.heap.size 0 (.map []) := by rw [← hU]; exact World.ownsMap_made _ _ _ _
  clear hm
  go_enter Tryz.func96, Tryz.ntmps96
  go_wp2_with fail
  clear hU hmm
  go_loopw [4, 5, 11] (fun _ _ i wr => ∃ (k : Nat) (D : DataW Unit), k ≤ l.length ∧ i = .int .i64 k ∧ Below w.heap.size w wr ∧ wr.ownsMap Tryz.prog 3 (plainElem (H := Unit) Tryz.prog 3) w.heap.size k D ∧ Hid (PosD D l k)) (fun _ _ i _ => l.length - (intOf i).toNat)
  case atStart => exact ⟨0, .map [], Nat.zero_le _, rfl, hbU, hown, Lib.hid (PosD.start l)⟩
  case round =>
    clear hown
    obtain ⟨k, D, hk, rfl, hBr, hown, HP⟩ := hrel
    by_cases hlt : k < l.length
    · obtain ⟨la, hla, hlb, a0, a1, a2, a3, a4, a5⟩ := (hL.below hBr).mv6 hlt
      have HN := Lib.hid (HP.out.put HM.out.2.2 hlt)
      have hst := mvOk_st (HM.out.2.1 l[k] (List.getElem_mem hlt))
      have hwf : (Lit.int .i64 l[k].st).wf = true := wf64 ⟨by omega, by omega⟩
      have hkey := Maps.keyOf_int_mk (P := Tryz.prog) Tryz.underlying3 hwf
      have hwk : (Lit.int .i64 (k : Int)).wf = true := wf64 ⟨by omega, by omega⟩
      have HWK := Lib.hid hwk
      have HKEY := Lib.hid hkey
      have x0 : (0 : Int) ≤ (k : Int) := by omega
      have x1 : (k : Int) < (l.length : Int) := by omega
      have q0 : decide ((k : Int) < (l.length : Int)) = true := decide_eq_true x1
      clear HP hwf hkey hwk
      obtain ⟨X, HX, u0, hbX, -⟩ := boxes1 wr (mvc l[k]) 66
      generalize l[k] = m at *
      subst hla
      obtain ⟨u1, u2, u3, u4, u5, u6⟩ := u0.c6'
      have hownX := hown.kept (below_grown hbX) (by simp)
      have BX := after_ hBr hbX
      have hX := HX.out
      go_wp2_with (at_mapUpdate; refine wpList_mapUpdate_own _ rfl _ _ _ 129 rfl 3 3 (Maps.int_keyed Tryz.underlying3) Tryz.underlying129 _ w.heap.size k _ rfl hownX (by unfold maxLen; omega) _ _ _ rfl rfl HKEY.out _ [] (plainElem_int Tryz.underlying3 HWK.out) ?_; intro w6 hown6 hg6)
      have B6 : Below w.heap.size w w6 := BX.grown hg6 BX.size (fun j e => by cases e; exact Nat.le_refl _)
      go_roundw
      case rel => exact ⟨k + 1, _, hlt, by go_num, B6, hown6, HN⟩
      case measure => simp [intOf]; omega
    · obtain rfl : k = l.length := by omega
      have q0 : decide ((l.length : Int) < (l.length : Int)) = false := decide_eq_false (by omega)
      go_wp2_with fail
      go_ret
      exact ⟨w.heap.size, D, rfl, Nat.le_refl _, hown, HP.out, hBr⟩
end Go.Proofs.YtpkepgcmifdpfaaGreatDoor
end
