/- A bundle of texts: LoopMI. -/
import Derived.Test.YtjoomgojnpcbeaaDoorK06
import Derived.Test.YtjoomgojnpcbeaaDoorK13
import Derived.Sort.LoopGhostIn
import Derived.WalkMore
section
namespace Go.Proofs.YtjoomgojnpcbeaaDoor
open Go Go.RowKit
section
variable {P : Program} {b : Frame} {k : List Item} {cs : List Frame} {a : Act} {w : World}
theorem stepR_scope {c : Code} : step P (lone (b.atR a (.code (.scope c) :: k)) cs w) = .next (lone (b.atR a (.code c :: .inScope c :: k)) cs w) :=
 step_lone_go (by simp [stepG, stepG.exec, Frame.atR])
theorem stepR_inScope {c : Code} : step P (lone (b.atR a (.inScope c :: k)) cs w) = .next (lone (b.atR a k) cs w) :=
 step_lone_go (by simp [stepG, stepG.exec, Frame.atR])
theorem wpIn_scope_straight {F : Fence} {n : Nat} {Q : Exit → Act → World → Prop} {c : Code} (h : c.wpIn F n P (Exit.noGoto Q) a w) : (Code.scope c).wpIn F n P Q a w := by
 intro b k cs hro hb hr
 have h0 : (lone (b.atR a (.code (.scope c) :: k)) cs w).fenced P F := fenced_calm hb hr rfl
 obtain ⟨e, a₁, w₁, hq, harr⟩ := h b (.inScope c :: k) cs hro hb hr
 cases e with
 | normal => exact ⟨.normal, a₁, w₁, hq, .head h0 stepR_scope (StepsIn.trans harr (.one (fenced_calm hb hr rfl) stepR_inScope))⟩
 | exit id =>
  have hx : exitTo id (.inScope c :: k) = exitTo id k := by simp [exitTo]
  exact ⟨.exit id, a₁, w₁, hq, fun k' hk => .head h0 stepR_scope (harr.1 k' (by rw [hx]; exact hk)),
   fun hr' hk => let ⟨k₁, h1, h2⟩ := harr.2 hr' (by rw [hx]; exact hk); ⟨k₁, h1, .head h0 stepR_scope h2⟩⟩
 | goto l => exact hq.elim
 | ret => exact ⟨_, a₁, w₁, hq, .of_steps (.one h0 stepR_scope) harr⟩
 | panic ch => exact ⟨_, a₁, w₁, hq, .of_steps (.one h0 stepR_scope) harr⟩
 | outgrown => exact ⟨_, a₁, w₁, hq, .of_steps (.one h0 stepR_scope) harr⟩
end
section
variable {P : Program}
theorem wpIn_loop_mrg {F : Fence} {rm : Nat} {c : Code} {Q : Exit → Act → World → Prop} {T : List Value} {w : World} (idx : List Nat) (R : Nat → (Nat → Value) → World → Prop) (m0 : Nat) (h0 : R m0 (slotF T) w)
  (round : ∀ (c2 : Code) (T2 : List Value), Hid (c = c2) → Hid (T = T2) → ∀ m f W, R m f W → c2.wpIn F rm P (Exit.then (fun a' w' => ∃ T', a' = { tmps := T'.toArray, defers := [] } ∧ T' = mrgL 0 T2 T' idx ∧ ∃ m', m' < m ∧ R m' (slotF T') w') Q) { tmps := (mrgF f 0 T2 idx).toArray, defers := [] } W) : (Code.loop c).wpIn F rm P Q { tmps := T.toArray, defers := [] } w := by
 refine wpIn_loop_ghost (fun m a' w' => ∃ f, a' = { tmps := (mrgF f 0 T idx).toArray, defers := [] } ∧ R m f w') m0 ⟨slotF T, by rw [mrgF_slot rfl (mrgL_self 0 T idx)], h0⟩ ?_
 rintro m a' W ⟨f, rfl, hR⟩
 refine wpIn_mono (round c T (Lib.hid rfl) (Lib.hid rfl) m f W hR) (fun e a w q => ?_)
 cases e with
 | normal =>
  obtain ⟨T', rfl, hT, m', hm, hR'⟩ := q
  exact ⟨m', hm, slotF T', by rw [mrgF_slot rfl hT], hR'⟩
 | _ => exact q
end
theorem wpIn_region_drw_tail {P : Program} {Q : Exit → Act → World → Prop} {n id r : Nat} {a : Act} {w : World} {l : List Oper} (k : Nat) (hm : P.follows .mixedOrders = true) (hB : tailB l.toArray (Array.replicate l.toArray.size false) 0 k = true) (hd : noDefer l.toArray = true)
  (h : wpQuiet P l.toArray (fun w' => ∃ u : Drw w, w' = u.val) (fun a' => ∀ w', (∃ u : Drw w, w' = u.val) → wpList P l.toArray (onlyK (Q .normal)) (l.drop k) a' w') ((l.take k).drop 0) a) : (Code.region id l.toArray true).wpIn (FR r) n P Q a w :=
 wpIn_of_any hm hd (wpAny_quiet_tail (C := fun w' => ∃ u : Drw w, w' = u.val) 0 k hB (by simp) ⟨⟨1⟩, rfl⟩ h)
theorem wpAny_drw {P : Program} {Q : Exit → Act → World → Prop} {a : Act} {w : World} {l : List Oper} (hB : Region.lexB .any l.toArray = true)
  (h : wpQuiet P l.toArray (fun w' => ∃ u : Drw w, w' = u.val) (fun a' => ∀ w', (∃ u : Drw w, w' = u.val) → Q .normal a' w') l a) : wpAny P .any l.toArray Q l.toArray.size (Array.replicate l.toArray.size false) a { w with drawn := w.drawn + 1 } := by
 simp only [Region.lexB, Bool.and_eq_true] at hB
 refine wpAny_of_quiet (C := fun w' => ∃ u : Drw w, w' = u.val) (Q := fun a' => ∀ w', (∃ u : Drw w, w' = u.val) → Q .normal a' w') (fun _ w' hw' h => h w' hw') _ _ _ _ ⟨⟨1⟩, rfl⟩ ?_
 have := wpAnyQ_lex (C := fun w' => ∃ u : Drw w, w' = u.val) (md := .any) hB.1 l 0 (Array.replicate l.toArray.size false) a (by simp) (by simpa using hB.2) h
 simpa using this
theorem wpIn_region_drw {P : Program} {Q : Exit → Act → World → Prop} {n id r : Nat} {a : Act} {w : World} {l : List Oper} (hm : P.follows .mixedOrders = true) (hB : Region.lexB .any l.toArray = true) (hd : noDefer l.toArray = true)
  (h : wpQuiet P l.toArray (fun w' => ∃ u : Drw w, w' = u.val) (fun a' => ∀ w', (∃ u : Drw w, w' = u.val) → Q .normal a' w') l a) : (Code.region id l.toArray true).wpIn (FR r) n P Q a w :=
 wpIn_of_any hm hd (wpAny_drw (Q := onlyK (Q .normal)) hB h)
def fromReg (n : Nat) : Code → Option Code
 | .seq a b => match a with
  | .region i _ _ => if i = n then some (.seq a b) else fromReg n b
  | _ => (fromReg n a).orElse fun _ => fromReg n b
 | .cond _ a b => (fromReg n a).orElse fun _ => fromReg n b
 | .block _ a => fromReg n a
 | .loop a => fromReg n a
 | .scope a => fromReg n a
 | .rangeFunc _ _ a b => (fromReg n a).orElse fun _ => fromReg n b
 | _ => none
def blockOf (n : Nat) : Code → Option Code
 | .seq a b => (blockOf n a).orElse fun _ => blockOf n b
 | .cond _ a b => (blockOf n a).orElse fun _ => blockOf n b
 | .block i a => if i = n then some (.block i a) else blockOf n a
 | .loop a => blockOf n a
 | .scope a => blockOf n a
 | .rangeFunc _ _ a b => (blockOf n a).orElse fun _ => blockOf n b
 | _ => none
def rangeBody : Code → Option Code
 | .seq a b => (rangeBody a).orElse fun _ => rangeBody b
 | .cond _ a b => (rangeBody a).orElse fun _ => rangeBody b
 | .block _ a => rangeBody a
 | .loop a => rangeBody a
 | .scope a => rangeBody a
 | .rangeFunc _ _ _ b => some b
 | _ => none
end Go.Proofs.YtjoomgojnpcbeaaDoor
end
