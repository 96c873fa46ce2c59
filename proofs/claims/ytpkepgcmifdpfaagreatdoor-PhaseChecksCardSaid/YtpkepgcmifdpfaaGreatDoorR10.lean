/- A bundle of texts: Range, RangeN, LoopM. -/
import Derived.Test.YtpkepgcmifdpfaaGreatDoorR01
import Derived.Test.YtpkepgcmifdpfaaGreatDoorR06
import Derived.RangeFuncNested
import Derived.RangeFuncBound
import Derived.RangeFuncCalls
import Derived.RangeFuncLeaves
import Derived.OwnWalkIn
import Derived.TacticsInMore
import Derived.LoopNIn
import Derived.LoopN
import Derived.LoopIn
import Derived.Lib.Hide
section
namespace Go.Proofs.YtpkepgcmifdpfaaGreatDoor
open Go Go.RowKit
@[go_sem] theorem semAt_round (l : Nat) (ρ : Operand → Value) (o : Oper) (h : ∀ c, o.op ≠ .defer c) : Oper.semAt (some l) ρ o = execOp ρ o := Oper.semAt_some l ρ o h
abbrev FR (l : Nat) : Fence := Fence.wide.inRound l
section lifts
variable {P : Program} {ops : Array Oper} {Q : Exit → Act → World → Prop} {md : Region.Mode} {l n : Nat}
def noDefer (ops : Array Oper) : Bool := ops.all fun o => match o.op with | .defer _ => false | _ => true
theorem noDefer_at (h : noDefer ops = true) {i : Nat} {o : Oper} (ho : ops[i]? = some o) : ∀ c, o.op ≠ .defer c := by
  intro c e
  obtain ⟨hi, rfl⟩ := Array.getElem?_eq_some_iff.1 ho
  have := Array.all_eq_true.1 h i hi
  rw [e] at this
  cases this
theorem lift_oper {o : Oper} {a : Act} {w : World} {K : Act → World → Prop} (hd : ∀ c, o.op ≠ .defer c) (h : o.wp P a w K Q) : o.wpIn (FR l) n P a w K Q := by
  refine ⟨fun _ _ => trivial, ?_⟩
  rw [show (FR l).round = some l from rfl, Oper.semAt_eq _ _ _ hd]
  unfold Oper.wp at h
  revert h
  generalize (execOp a.eval o).run P w = r
  intro h
  cases r with
  | ok x w' =>
    cases x with
    | enter f args => exact ⟨(fun hh => by simp [Fence.wide, Fence.inRound] at hh), callsIn_wide.2 h⟩
    | row row args =>
      refine ⟨(fun hh => by simp [Fence.wide, Fence.inRound] at hh), fun c cs _ => ?_⟩
      obtain ⟨v, w', r, s⟩ := h c cs
      exact ⟨v, w', r, stepsIn_wide.2 s⟩
    | value v => exact h
    | skip => exact h
    | defer d => exact h
    | _ => exact h.elim
  | halt x w' =>
    cases x <;> first | exact h | exact h.elim
theorem lift_op (hd : noDefer ops = true) (ho : ¬ LetsOut Q) {i : Nat} {a : Act} {w : World} {K K' : Act → World → Prop} (hK : ∀ a w, K a w → K' a w) (h : wpOp P ops Q i K a w) : wpOpIn (FR l) n P ops Q i K' a w := by
  unfold wpOp at h
  unfold wpOpIn
  cases hi : ops[i]? with
  | none => simp only [hi] at h ⊢; exact hK _ _ h
  | some o =>
    simp only [hi] at h ⊢
    split
    · rename_i hw
      simp only [hw, if_true] at h
      rcases h with h | h
      · exact Oper.wpIn_mono hK (lift_oper (noDefer_at hd hi) h)
      · exact absurd h.2 ho
    · rename_i hw
      simp only [hw] at h
      exact ⟨fun _ _ => trivial, hK _ _ h⟩
theorem lift_any (hd : noDefer ops = true) (ho : ¬ LetsOut Q) : ∀ (fuel : Nat) (listed : Array Bool) (a : Act) (w : World), wpAny P md ops Q fuel listed a w → wpAnyIn (FR l) n P md ops Q fuel listed a w
  | 0, _, _, _, h => h
  | fuel + 1, _, _, _, h => ⟨h.1, fun i hi => lift_op hd ho (fun a w => lift_any hd ho fuel _ a w) (h.2 i hi)⟩
theorem wpAny_kept {a : Act} {w : World} {l : List Oper} (B : Nat) (w0 : World) (hB : Region.lexB .any l.toArray = true) (h0 : Below B w0 w)
    (h : wpQuiet P l.toArray (fun w' => ∃ u : Kept B w0, w' = u.val) (fun a' => ∀ w', (∃ u : Kept B w0, w' = u.val) → Q .normal a' w') l a) : wpAny P .any l.toArray Q l.toArray.size (Array.replicate l.toArray.size false) a { w with drawn := w.drawn + 1 } := by
  simp only [Region.lexB, Bool.and_eq_true] at hB
  refine wpAny_of_quiet (C := fun w' => ∃ u : Kept B w0, w' = u.val) (Q := fun a' => ∀ w', (∃ u : Kept B w0, w' = u.val) → Q .normal a' w') (fun _ w' hw' h => h w' hw') _ _ _ _ ⟨⟨_, h0.drew⟩, rfl⟩ ?_
  have := wpAnyQ_lex (C := fun w' => ∃ u : Kept B w0, w' = u.val) (md := .any) hB.1 l 0 (Array.replicate l.toArray.size false) a (by simp) (by simpa using hB.2) h
  simpa using this
def onlyK (K : Act → World → Prop) : Exit → Act → World → Prop
  | .normal, a, w => K a w
  | _, _, _ => False
theorem onlyK_out {K : Act → World → Prop} : ¬ LetsOut (onlyK K) := fun ⟨_, _, h⟩ => h
theorem wpIn_weaken {o : Oper} {a : Act} {w : World} {K : Act → World → Prop} (h : o.wpIn (FR l) n P a w K (onlyK K)) : o.wpIn (FR l) n P a w K Q := by
  unfold Oper.wpIn at *
  refine ⟨h.1, ?_⟩
  have h := h.2
  generalize (o.semAt (FR l).round a.eval).run P w = r at *
  cases r with
  | ok x w' =>
    cases x <;> simp only [Oper.uponIn] at h ⊢ <;>
      first
        | exact h
        | exact ⟨h.1, CallsIn.mono h.2 (fun e w'' he => by cases e <;> first | exact he | exact he.elim | exact (onlyK_out he).elim)⟩
        | exact ⟨h.1, RoundIn.mono h.2 (fun e w'' he => by cases e <;> first | exact he | exact he.elim | exact (onlyK_out he).elim)⟩
  | halt x w' => cases x <;> simp only [Oper.uponIn] at h ⊢ <;> first | exact h | exact h.elim
theorem lift_law {o : Oper} {rest : List Oper} {a : Act} {w : World} (hg : o.guard = none) (hd : ∀ c, o.op ≠ .defer c) (h : ∀ K : Act → World → Prop, (∀ a w, wpListIn (FR l) n P ops Q rest a w → K a w) → wpList P ops (onlyK K) [o] a w) : wpListIn (FR l) n P ops Q (o :: rest) a w := by
  refine wpListIn_plain hg fun K hK => ?_
  have h1 := h K hK
  unfold wpList at h1
  rw [show Region.wanted o (yielded ops a.tmps) = true by simp [Region.wanted, hg], if_pos rfl] at h1
  rcases h1 with h1 | h1
  · exact wpIn_weaken (lift_oper hd h1)
  · exact absurd h1.2 onlyK_out
end lifts
def Hold (w : World) (b : Nat) (o : Obj) : Prop := w.heap[b]? = some o
section
variable {w w' : World} {b : Nat} {o : Obj}
theorem Hold.lt (h : Hold w b o) : b < w.heap.size := (Array.getElem?_eq_some_iff.1 h).1
theorem Hold.below (h : Hold w b o) (hb : Below w.heap.size w w') : Hold w' b o := (hb.block b h.lt).trans h
theorem Hold.alloc (h : Hold w b o) (o' : Obj) : Hold (w.alloc o') b o := (Below.heap_alloc w o' b h.lt).trans h
theorem Hold.grown (h : Hold w b o) {row : Option Nat} (hg : w.grownBy w' row) (hne : some b ≠ row) : Hold w' b o := (hg.block b h.lt hne).trans h
theorem Hold.set_other (h : Hold w b o) {p : Addr} (hp : b ≠ p.block) (v : Value) : Hold (w.setCell p v) b o := (heap_setCell_other w p b v hp).trans h
theorem Hold.drewN (h : Hold w b o) (n : Nat) : Hold (w.drewN n) b o := h
theorem Hold.ne_box (h : Hold w b o) (ho : o.isCells = false) {b' : Nat} {cs : Array Value} {t : TypeId} (hb : Box w b' cs t) : b ≠ b' := by
  rintro rfl
  unfold Hold at h
  unfold Box at hb
  rw [h] at hb
  cases hb
  cases ho
theorem Hold.ne_own (h : Hold w b o) (ho : o.isCells = false) {base : Nat} {e : TypeId} {size : Nat} {v : Value} {n : Nat} {xs : List Value} (hown : w.ownsRow base e size v n xs) : some b ≠ v.ownBlock := by
  rcases hown.2 with ⟨rfl, _⟩ | ⟨g, cap, cur, rfl, _, hg, _⟩
  · simp [Value.ownBlock]
  · intro e
    simp only [Value.ownBlock, Option.some.injEq] at e
    subst e
    unfold Hold at h
    rw [h] at hg
    cases hg
    cases ho
end
theorem Box.ne_own {w : World} {b : Nat} {cs : Array Value} {t : TypeId} (h : Box w b cs t) {base : Nat} {e : TypeId} (hne : t ≠ e) {size : Nat} {v : Value} {n : Nat} {xs : List Value} (hown : w.ownsRow base e size v n xs) : some b ≠ v.ownBlock := by
  rcases hown.2 with ⟨rfl, _⟩ | ⟨g, cap, cur, rfl, _, hg, _⟩
  · simp [Value.ownBlock]
  · intro e'
    simp only [Value.ownBlock, Option.some.injEq] at e'
    subst e'
    unfold Box at h
    rw [h] at hg
    cases hg
    exact hne rfl
section
variable {W W' : World} {row : Option Nat} {B : Nat}
theorem Box.own {b : Nat} {cs : Array Value} {t : TypeId} (h : Box W b cs t) (hg : W.grownBy W' row) (hr : ∀ r, row = some r → B ≤ r ∧ ∃ o : Obj, W.heap[r]? = some o ∧ o.isCells = false) : Box W' b cs t :=
  h.grown hg (fun e => by
    obtain ⟨_, o, ho, hc⟩ := hr b e.symm
    unfold Box at h
    rw [h] at ho
    cases ho
    cases hc)
theorem row_own {base : Nat} {e : TypeId} {size : Nat} {v : Value} {n : Nat} {xs : List Value} (h : W.ownsRow base e size v n xs) (hg : W.grownBy W' row) (hr : ∀ r, row = some r → B ≤ r ∧ ∃ o : Obj, W.heap[r]? = some o ∧ o.isCells = false) : W'.ownsRow base e size v n xs := by
  refine h.kept hg ?_
  cases row with
  | none => cases v.ownBlock <;> simp
  | some r =>
    obtain ⟨_, o, ho, hc⟩ := hr r rfl
    have := Hold.ne_own (b := r) (o := o) ho hc h
    exact .inr (fun e => this e.symm)
theorem below_own {w : World} {C : Nat} (h : Below C w W) (hC : C ≤ B) (hW : C ≤ W.heap.size) (hg : W.grownBy W' row) (hr : ∀ r, row = some r → B ≤ r ∧ ∃ o : Obj, W.heap[r]? = some o ∧ o.isCells = false) : Below C w W' :=
  h.grown hg hW (fun k e => Nat.le_trans hC (hr k e).1)
theorem Hold.own {b : Nat} {o : Obj} (h : Hold W b o) (hb : b < B) (hg : W.grownBy W' row) (hr : ∀ r, row = some r → B ≤ r ∧ ∃ o : Obj, W.heap[r]? = some o ∧ o.isCells = false) : Hold W' b o :=
  h.grown hg (fun e => by have := (hr b e.symm).1; omega)
end
def SeqP {α : Type} (P : Program) (g : Nat) (lb : Array Value) (encs : α → Array Value) (L : List α) (K : World → Prop) : Prop :=
  ∀ (l : Nat) (J Jx : List α → World → Prop) (W : World), AbidesFrom W.heap.size J → AbidesFrom W.heap.size Jx → (∀ pre W1, J pre W1 → K W1) →
    (∀ pre x post W1, L = pre ++ x :: post → J pre W1 → YieldAt Fence.wide 8 P l (encs x) W1 fun e W' => (e = .returned (.bool true) ∧ J (pre ++ [x]) W') ∨ (e = .returned (.bool false) ∧ Jx (pre ++ [x]) W')) →
    J [] W →
    CallsIn Fence.wide 9 P g (#[.func (.yield l) #[] #[]] ++ lb) W fun e W' => (∃ v, e = .returned v) ∧ (J L W' ∨ ∃ pre, Jx pre W')
def rPost (l D : Nat) (r : Loop) (I : World → Prop) (Ix : Code → World → Prop) : Exit → Act → World → Prop
  | .normal, _, W => Hold W l (.loop r) ∧ Hold W D (.deferred (some [])) ∧ I W
  | .ret, _, W => Hold W l (.loop r) ∧ Hold W D (.deferred (some [])) ∧ Ix .ret W
  | .exit id, _, W => Hold W l (.loop r) ∧ Hold W D (.deferred (some [])) ∧ Ix (.exit id) W
  | .goto t, _, W => Hold W l (.loop r) ∧ Hold W D (.deferred (some [])) ∧ Ix (.goto t) W
  | .panic _, _, _ => False
  | .outgrown, _, _ => False
section law
variable {P : Program}
theorem wp_range {α : Type} {g : Operand} {ps : Array Tmp} {assign body : Code} {Q : Exit → Act → World → Prop} {a : Act} {w : World} {gf : Nat} {lb : Array Value} (hg : a.eval g = .func (.func gf) #[] lb) (eg : ∀ args w, (callFunc gf args).run P w = .ok (.enter gf args) w)
    {encs : α → Array Value} {L : List α} {Kp : World → Prop} (hseq : SeqP P gf lb encs L Kp) (hps : ∀ x, (encs x).size = ps.size)
    (I : List α → World → Prop) (Ix : Code → List α → World → Prop) (hI : OwnFrom w.heap.size I) (hIx : ∀ c, OwnFrom w.heap.size (Ix c)) (hIB : ∀ pre W, I pre W → Kp W) (h0 : I [] w)
    (hround : ∀ (r : Loop) (pre : List α) (x : α) (post : List α) (W : World), L = pre ++ x :: post → Hold W (w.heap.size + 1) (.loop r) → Hold W w.heap.size (.deferred (some [])) → I pre W →
      assign.wpIn (FR (w.heap.size + 1)) 8 P (Exit.then (fun a' W' => Hold W' (w.heap.size + 1) (.loop r) ∧ Hold W' w.heap.size (.deferred (some [])) ∧ I pre W' ∧ ∃ A : World → Prop, OwnFrom w.heap.size (fun (_ : Unit) => A) ∧ A W' ∧
        ∀ (r'' : Loop) (W'' : World), Hold W'' (w.heap.size + 1) (.loop r'') → Hold W'' w.heap.size (.deferred (some [])) → I pre W'' → A W'' → body.wpIn (FR (w.heap.size + 1)) 8 P (rPost (w.heap.size + 1) w.heap.size r'' (I (pre ++ [x])) (fun c => Ix c (pre ++ [x]))) a' W'') (fun _ _ _ => False))
        { tmps := (ps.zip (encs x)).foldl (fun t (p, v) => t.setIfInBounds p v) a.tmps, defers := [] } W)
    (hdone : ∀ (W : World), I L W → Hold W w.heap.size (.deferred (some [])) → Q .normal { a with defers := { target := .collected w.heap.size, args := #[] } :: a.defers } W)
    (hstop : ∀ (c : Code) (pre : List α) (W : World), Ix c pre W → Hold W w.heap.size (.deferred (some [])) → c.wp P Q { a with defers := { target := .collected w.heap.size, args := #[] } :: a.defers } W) :
    (Code.rangeFunc g ps assign body).wp P Q a w := by
  refine (wpIn_wide (n := 10)).1 (wpIn_rangeFunc ?_)
  intro fn hfn
  obtain ⟨rec, hrec⟩ : ∃ rec : LoopState → Option Code → Loop, rec = fun st pe => { state := st, pending := pe, fn, tmps := a.tmps, params := ps, assign, body, defers := w.heap.size } := ⟨_, rfl⟩
  obtain ⟨W1, hW1⟩ : ∃ W1, (w.alloc (.deferred (some []))).alloc (.loop (rec .ready none)) = W1 := ⟨_, rfl⟩
  have hL1 : W1.heap[w.heap.size + 1]? = some (.loop (rec .ready none)) := by
    rw [← hW1]; have := World.alloc_heap_new (w.alloc (.deferred (some []))) (.loop (rec .ready none)); rwa [World.size_alloc] at this
  have hK1 : W1.heap[w.heap.size]? = some (.deferred (some [])) := by
    rw [← hW1]; exact (Below.heap_alloc _ _ _ (by simp)).trans (World.alloc_heap_new w _)
  have hI1 : I [] W1 := by rw [← hW1]; exact hI.alloc _ (hI.alloc _ h0)
  refine ⟨w.heap.size + 1, [{ target := .collected w.heap.size, args := #[] }], W1, { target := .fn (.func gf) lb, args := #[.func (.yield (w.heap.size + 1)) #[] #[]] }, W1, gf,
    #[.func (.yield (w.heap.size + 1)) #[] #[]] ++ lb, W1, ?_, ?_, ?_, ?_, (fun hh => by simp [Fence.wide] at hh), ?_⟩
  · rw [← hW1, hrec]; exact run_enterLoop_outer _ _ _ _ _
  · simp only [resolve, hg]
    simp [go_sem]
  · intro f' hf'; trivial
  · simp [invoke, go_sem, eg]
  · have hnw : ∀ {A : World} {row : Option Nat}, (∀ r, row = some r → W1.heap.size ≤ r ∧ ∃ o : Obj, A.heap[r]? = some o ∧ o.isWalk = true) → (∀ r, row = some r → w.heap.size ≤ r ∧ ∃ o : Obj, A.heap[r]? = some o ∧ o.isCells = false) :=
      fun hr r e => by obtain ⟨hB, o, ho, hw⟩ := hr r e; exact ⟨by rw [← hW1] at hB; simp at hB; omega, o, ho, Obj.not_cells_of_walk hw⟩
    refine (hseq (w.heap.size + 1)
      (fun pre W => I pre W ∧ W.heap[w.heap.size + 1]? = some (.loop (rec .ready none)) ∧ W.heap[w.heap.size]? = some (.deferred (some [])))
      (fun pre W => ∃ c, Ix c pre W ∧ W.heap[w.heap.size + 1]? = some (.loop (rec .done (some c))) ∧ W.heap[w.heap.size]? = some (.deferred (some [])))
      W1
      (fun s A B row hs hg' hr => ⟨hI s A B row hs.1 hg' (hnw hr), (grownBy_keeps hg' (fun r e => (hr r e).2) hs.2.1 rfl).trans hs.2.1, (grownBy_keeps hg' (fun r e => (hr r e).2) hs.2.2 rfl).trans hs.2.2⟩)
      (fun s A B row hs hg' hr => by
        obtain ⟨c, hc, hl, hk⟩ := hs
        exact ⟨c, hIx c s A B row hc hg' (hnw hr), (grownBy_keeps hg' (fun r e => (hr r e).2) hl rfl).trans hl, (grownBy_keeps hg' (fun r e => (hr r e).2) hk rfl).trans hk⟩)
      (fun pre W h => hIB pre W h.1) ?_ ⟨hI1, hL1, hK1⟩).mono ?_
    · rintro pre x post W hLx ⟨hi, hl, hk⟩
      have hy := run_yield (P := P) (args := encs x) hl (by rw [hrec]; exact hps x)
      rw [hrec] at hy
      refine ⟨fn, _, assign, body, hy, roundIn_of_wpIn hfn (wpIn_mono (hround (rec .ready none) pre x post W hLx hl hk hi) ?_)⟩
      clear hy
      intro e1 a' Wa hq
      cases e1 with
      | normal => ?_
      | _ => exact hq
      obtain ⟨hla, hka, hia, A, hA, hax, hbody⟩ := hq
      have hlt : w.heap.size + 1 < Wa.heap.size := hla.lt
      refine ⟨_, run_beginRound hla (by rw [hrec]), ?_⟩
      have hl2 : (Wa.putObj (w.heap.size + 1) (.loop { rec .ready none with state := .busy })).heap[w.heap.size + 1]? = some (.loop { rec .ready none with state := .busy }) := World.putObj_heap_same hlt
      have hk2 : (Wa.putObj (w.heap.size + 1) (.loop { rec .ready none with state := .busy })).heap[w.heap.size]? = some (.deferred (some [])) := (World.putObj_heap_other (by omega)).trans hka
      refine wpIn_mono (hbody { rec .ready none with state := .busy } _ hl2 hk2 (hI.putObj _ hia (by omega) hla rfl) (hA.putObj (s := ()) _ hax (by omega) hla rfl)) ?_
      have fin : ∀ (jump : Option Code) (W3 : World), Hold W3 (w.heap.size + 1) (.loop { rec .ready none with state := .busy }) → Hold W3 w.heap.size (.deferred (some [])) →
          (Instr.endRound (w.heap.size + 1) jump).run P W3 = .ok (.bool jump.isNone) (W3.putObj (w.heap.size + 1) (.loop (rec (if jump.isNone then .ready else .done) jump))) ∧
          (W3.putObj (w.heap.size + 1) (.loop (rec (if jump.isNone then .ready else .done) jump))).heap[w.heap.size + 1]? = some (.loop (rec (if jump.isNone then .ready else .done) jump)) ∧
          (W3.putObj (w.heap.size + 1) (.loop (rec (if jump.isNone then .ready else .done) jump))).heap[w.heap.size]? = some (.deferred (some [])) := fun jump W3 hl3 hk3 => by
        have := run_endRound (P := P) jump hl3
        rw [hrec] at this ⊢
        exact ⟨this, World.putObj_heap_same hl3.lt, (World.putObj_heap_other (by omega)).trans hk3⟩
      rintro e a3 W3 hp
      cases e with
      | normal =>
        obtain ⟨hl3, hk3, hi3⟩ := hp
        obtain ⟨hr, hl4, hk4⟩ := fin none W3 hl3 hk3
        exact ⟨_, _, hr, .inl ⟨rfl, hI.putObj _ hi3 (by omega) hl3 rfl, hl4, hk4⟩⟩
      | ret =>
        obtain ⟨hl3, hk3, hi3⟩ := hp
        obtain ⟨hr, hl4, hk4⟩ := fin (some .ret) W3 hl3 hk3
        exact ⟨_, _, hr, .inr ⟨rfl, .ret, (hIx _).putObj _ hi3 (by omega) hl3 rfl, hl4, hk4⟩⟩
      | exit id =>
        obtain ⟨hl3, hk3, hi3⟩ := hp
        obtain ⟨hr, hl4, hk4⟩ := fin (some (.exit id)) W3 hl3 hk3
        exact ⟨_, _, hr, .inr ⟨rfl, .exit id, (hIx _).putObj _ hi3 (by omega) hl3 rfl, hl4, hk4⟩⟩
      | goto t =>
        obtain ⟨hl3, hk3, hi3⟩ := hp
        obtain ⟨hr, hl4, hk4⟩ := fin (some (.goto t)) W3 hl3 hk3
        exact ⟨_, _, hr, .inr ⟨rfl, .goto t, (hIx _).putObj _ hi3 (by omega) hl3 rfl, hl4, hk4⟩⟩
      | panic ch => exact hp.elim
      | outgrown => exact hp.elim
    · rintro e W2 ⟨⟨v, rfl⟩, (⟨hi, hl, hk⟩ | ⟨pre, c, hi, hl, hk⟩)⟩
      · exact ⟨none, _, by have := run_endLoop (P := P) hl (by rw [hrec]; simp); rw [hrec] at this; exact this, hdone _ (hI.putObj _ hi (by omega) hl rfl) ((World.putObj_heap_other (by omega)).trans hk)⟩
      · exact ⟨some c, _, by have := run_endLoop (P := P) hl (by rw [hrec]; simp); rw [hrec] at this; exact this, wpIn_wide.2 (hstop c pre _ ((hIx c).putObj _ hi (by omega) hl rfl) ((World.putObj_heap_other (by omega)).trans hk))⟩
end law
abbrev mark (D : Nat) : Deferred := { target := .collected D, args := #[] }
def Marks (B C : Nat) (ds : List Deferred) (W : World) : Prop := ∃ Ds : List Nat, ds = Ds.map mark ∧ Ds.Nodup ∧ ∀ D ∈ Ds, B ≤ D ∧ D < C ∧ Hold W D (.deferred (some []))
section
variable {B C : Nat} {ds : List Deferred} {W W' : World}
theorem Marks.none_ : Marks B C [] W := ⟨[], rfl, List.nodup_nil, fun _ h => absurd h (by simp)⟩
theorem Marks.below (h : Marks B C ds W) (hb : Below W.heap.size W W') : Marks B C ds W' := by
  obtain ⟨Ds, e, hn, hh⟩ := h
  exact ⟨Ds, e, hn, fun D hD => ⟨(hh D hD).1, (hh D hD).2.1, (hh D hD).2.2.below hb⟩⟩
theorem Marks.more {C' : Nat} (h : Marks B C ds W) (hC : C ≤ C') : Marks B C' ds W := by
  obtain ⟨Ds, e, hn, hh⟩ := h
  exact ⟨Ds, e, hn, fun D hD => ⟨(hh D hD).1, Nat.lt_of_lt_of_le (hh D hD).2.1 hC, (hh D hD).2.2⟩⟩
theorem Marks.own {row : Option Nat} {E : Nat} (h : Marks B C ds W) (hC : C ≤ E) (hg : W.grownBy W' row) (hr : ∀ r, row = some r → E ≤ r ∧ ∃ o : Obj, W.heap[r]? = some o ∧ o.isCells = false) : Marks B C ds W' := by
  obtain ⟨Ds, e, hn, hh⟩ := h
  exact ⟨Ds, e, hn, fun D hD => ⟨(hh D hD).1, (hh D hD).2.1, (hh D hD).2.2.own (B := E) (by have := (hh D hD).2.1; omega) hg hr⟩⟩
theorem Marks.set_other (h : Marks B C ds W) {b i : Nat} {cs : Array Value} {t : TypeId} (hb : Box W b cs t) (v : Value) : Marks B C ds (W.setCell ⟨b, i, none⟩ v) := by
  obtain ⟨Ds, e, hn, hh⟩ := h
  exact ⟨Ds, e, hn, fun D hD => ⟨(hh D hD).1, (hh D hD).2.1, (hh D hD).2.2.set_other ((hh D hD).2.2.ne_box rfl hb) v⟩⟩
theorem Marks.grown {base : Nat} {e : TypeId} {size : Nat} {v : Value} {n : Nat} {xs : List Value} (h : Marks B C ds W) (hown : W.ownsRow base e size v n xs) (hg : W.grownBy W' v.ownBlock) : Marks B C ds W' := by
  obtain ⟨Ds, e, hn, hh⟩ := h
  exact ⟨Ds, e, hn, fun D hD => ⟨(hh D hD).1, (hh D hD).2.1, (hh D hD).2.2.grown hg ((hh D hD).2.2.ne_own rfl hown)⟩⟩
theorem Marks.map {b : Nat} {o : Obj} (h : Marks B C ds W) (hb : W.heap[b]? = some o) (ho : o ≠ .deferred (some [])) (hg : W.grownBy W' (some b)) : Marks B C ds W' := by
  obtain ⟨Ds, e, hn, hh⟩ := h
  exact ⟨Ds, e, hn, fun D hD => ⟨(hh D hD).1, (hh D hD).2.1, (hh D hD).2.2.grown hg (fun e => by
    cases e
    exact ho (Option.some.inj (hb.symm.trans (hh _ hD).2.2)))⟩⟩
theorem Marks.cons {D : Nat} (h : Marks B C ds W) (hB : B ≤ D) (hC : C ≤ D) (hD : Hold W D (.deferred (some []))) : Marks B (D + 1) (mark D :: ds) W := by
  obtain ⟨Ds, rfl, hn, hh⟩ := h
  refine ⟨D :: Ds, rfl, List.nodup_cons.2 ⟨fun hm => by have := (hh D hm).2.1; omega, hn⟩, fun D' hD' => ?_⟩
  rcases List.mem_cons.1 hD' with rfl | hm
  · exact ⟨hB, Nat.lt_succ_self _, hD⟩
  · exact ⟨(hh D' hm).1, by have := (hh D' hm).2.1; omega, (hh D' hm).2.2⟩
end
structure SameC (B : Nat) (W W' : World) : Prop where
  below : Below B W W'
  size : W'.heap.size = W.heap.size
  cells : ∀ (b : Nat) cs t f, W.heap[b]? = some (Obj.cells cs t f) → W'.heap[b]? = some (Obj.cells cs t f)
theorem SameC.refl (B : Nat) (W : World) : SameC B W W := ⟨Below.refl _ _, rfl, fun _ _ _ _ h => h⟩
theorem SameC.cell_ {B : Nat} {W W' : World} (h : SameC B W W') {p : Addr} {v : Value} (hc : W.cell? p = some v) : W'.cell? p = some v := by
  cases hW : W.heap[p.block]? with
  | none => simp [World.cell?, hW] at hc
  | some o =>
    cases o with
    | cells cs t f => exact (World.cell?_of_block ((h.cells _ _ _ _ hW).trans hW.symm)).trans hc
    | _ => simp [World.cell?, hW] at hc
theorem SameC.sl {B : Nat} {W W' : World} (h : SameC B W W') {α : Type} {size : Nat} {cell : α → Nat → Value} {A : Option Addr} {xs : List α} (hs : Sl size cell W W.heap.size A xs) : Sl size cell W' W'.heap.size A xs := by
  intro k hk
  obtain ⟨ad, e, hb, hc⟩ := hs k hk
  exact ⟨ad, e, by rw [h.size]; exact hb, fun j hj => h.cell_ (hc j hj)⟩
theorem SameC.box {B : Nat} {W W' : World} (h : SameC B W W') {b : Nat} {cs : Array Value} {t : TypeId} (hb : Box W b cs t) : Box W' b cs t := h.cells _ _ _ _ hb
theorem SameC.own {B : Nat} {W W' : World} (h : SameC B W W') {base : Nat} {e : TypeId} {size : Nat} {v : Value} {n : Nat} {xs : List Value} (ho : W.ownsRow base e size v n xs) : W'.ownsRow base e size v n xs := by
  refine ⟨ho.1, ?_⟩
  rcases ho.2 with h1 | ⟨g, cap, cur, h1, h2, h3, h4⟩
  · exact .inl h1
  · exact .inr ⟨g, cap, cur, h1, h2, h.cells _ _ _ _ h3, h4⟩
section
variable {P : Program}
theorem leaves_marks {fn : Func} {tmps : Array Value} {R : Ending → World → Prop} {B C : Nat} : ∀ (ds : List Deferred) (W : World), Marks B C ds W → (∀ W', SameC B W W' → ∃ v, (results fn tmps).run P W' = .ok v W' ∧ R (.returned v) W') → LeavesInM Fence.wide 9 P fn tmps R ds .returning W
  | [], W, _, h => h W (SameC.refl _ _)
  | d :: ds, W, hm, h => by
    obtain ⟨Ds, e, hn, hh⟩ := hm
    cases Ds with
    | nil => cases e
    | cons D Ds =>
      obtain ⟨rfl, rfl⟩ := List.cons.inj e
      obtain ⟨hB, hC, hD⟩ := hh D (by simp)
      rw [List.nodup_cons] at hn
      refine ⟨by simp, .inl ⟨D, _, rfl, run_takeDeferred hD, ?_⟩⟩
      have hsame : SameC B W (W.putObj D (.deferred none)) := by
        refine ⟨(Below.refl B W).grown (grownBy_putObj' W D (.deferred none)) (by have := hD.lt; omega) (fun k e => by cases e; exact hB), by simp, fun b cs t f hb => ?_⟩
        by_cases e : b = D
        · subst e
          rw [show W.heap[b]? = _ from hD] at hb
          cases hb
        · exact (World.putObj_heap_other e).trans hb
      refine leaves_marks (C := C) _ _ ⟨Ds, rfl, hn.2, fun D' hD' => ?_⟩ (fun W' hs => h W' ⟨hsame.below.trans hs.below, hs.size.trans hsame.size, fun b cs t f hb => hs.cells _ _ _ _ (hsame.cells _ _ _ _ hb)⟩)
      obtain ⟨h1, h2, h3⟩ := hh D' (by simp [hD'])
      have hne : D' ≠ D := by rintro rfl; exact hn.1 hD'
      exact ⟨h1, h2, (World.putObj_heap_other hne).trans h3⟩
theorem calls_marks {f : FuncId} {fn : Func} {c : Code} {args : Array Value} {w : World} {R : Ending → World → Prop} (hf : P.funcs[f]? = some fn) (hb : fn.body = some c)
    (h : c.wp P (bodyPostM Fence.wide 9 P fn R) { tmps := args ++ Array.replicate (fn.ntmps - args.size) undef, defers := [] } w) : Calls P f args w R :=
  callsIn_wide.1 (callsIn_of_wp_marks hf hb trivial (wpIn_wide.2 h))
theorem rounds_mono {c : Code} {Q : Exit → Act → World → Prop} : ∀ {k k' : Nat} {a : Act} {w : World}, k ≤ k' → Code.rounds P c Q k a w → Code.rounds P c Q k' a w
  | 0, _, _, _, _, h => h.elim
  | k + 1, 0, _, _, hk, _ => absurd hk (by omega)
  | k + 1, k' + 1, a, w, hk, h => by
    rw [rounds_succ] at h ⊢
    exact Code.wp_mono (fun e a w q => by cases e <;> first | exact q | exact rounds_mono (by omega) q) h
theorem wp_loop_ghost {c : Code} {Q : Exit → Act → World → Prop} {a : Act} {w : World} (I : Nat → Act → World → Prop) (m : Nat) (h0 : I m a w)
    (round : ∀ m a w, I m a w → c.wp P (Exit.then (fun a' w' => ∃ m', m' < m ∧ I m' a' w') Q) a w) : (Code.loop c).wp P Q a w := by
  have key : ∀ m a w, I m a w → Code.rounds P c Q (m + 1) a w := by
    intro m
    induction m using Nat.strongRecOn with
    | _ m ih =>
      intro a w h
      rw [rounds_succ]
      refine Code.wp_mono (fun e a w q => ?_) (round m a w h)
      cases e with
      | normal =>
        obtain ⟨m', hm, hI⟩ := q
        exact rounds_mono (by omega) (ih m' hm _ _ hI)
      | _ => exact q
  exact wp_loop_rounds _ (key m a w h0)
def over (t : Array Value) (l : List (Nat × Value)) : Array Value := l.foldl (fun t p => t.setIfInBounds p.1 p.2) t
def atOf (idx : List Nat) (t : Array Value) : List Value := idx.map fun i => t.getD i undef
def outOf (idx : List Nat) (t : Array Value) : List (Option Value) := (List.range t.size).map fun i => if idx.contains i then none else t[i]?
theorem over_size (t : Array Value) : ∀ l : List (Nat × Value), (over t l).size = t.size := by
  intro l
  induction l generalizing t with
  | nil => rfl
  | cons p l ih => show (over (t.setIfInBounds p.1 p.2) l).size = _; rw [ih]; simp
theorem over_other {i : Nat} : ∀ (l : List (Nat × Value)) (t : Array Value), (∀ p ∈ l, p.1 ≠ i) → (over t l)[i]? = t[i]?
  | [], _, _ => rfl
  | p :: l, t, h => by
    show (over (t.setIfInBounds p.1 p.2) l)[i]? = _
    rw [over_other l _ (fun q hq => h q (by simp [hq])), Array.getElem?_setIfInBounds_ne (h p (by simp))]
theorem over_at {t' : Array Value} {i : Nat} (hi : i < t'.size) : ∀ (idx : List Nat) (t : Array Value), t.size = t'.size → i ∈ idx → (over t (idx.zip (atOf idx t')))[i]? = t'[i]?
  | [], _, _, h => absurd h (by simp)
  | j :: idx, t, hs, h => by
    show (over (t.setIfInBounds j (t'.getD j undef)) (idx.zip (atOf idx t')))[i]? = _
    by_cases hm : i ∈ idx
    · exact over_at hi idx _ (by simpa using hs) hm
    · have hj : i = j := by
        rcases List.mem_cons.1 h with e | e
        · exact e
        · exact absurd e hm
      subst hj
      rw [over_other _ _ (fun p hp e => hm (by rw [← e]; exact (List.of_mem_zip hp).1)), Array.getElem?_setIfInBounds_self_of_lt (by omega)]
      simp [hi]
theorem over_of {idx : List Nat} {t t' : Array Value} (h : outOf idx t' = outOf idx t) : t' = over t (idx.zip (atOf idx t')) := by
  have hs : t'.size = t.size := by have := congrArg List.length h; simpa [outOf] using this
  apply Array.ext_getElem?
  intro i
  by_cases hi : i < t'.size
  · by_cases hm : i ∈ idx
    · exact (over_at hi idx t hs.symm hm).symm
    · rw [over_other _ _ (fun p hp e => hm (by rw [← e]; exact (List.of_mem_zip hp).1))]
      have := congrArg (fun l => l[i]?) h
      simp only [outOf, List.getElem?_map, List.getElem?_range hi, List.getElem?_range (hs ▸ hi), Option.map_some] at this
      simpa [hm] using this
  · rw [Array.getElem?_eq_none (by omega), Array.getElem?_eq_none (by rw [over_size]; omega)]
theorem wp_loop_marks {c : Code} {Q : Exit → Act → World → Prop} {t : Array Value} {ds0 : List Deferred} {w : World} (idx : List Nat) (R : Nat → List Value → List Deferred → World → Prop) (m0 : Nat) (h0 : R m0 (atOf idx t) ds0 w)
    (round : ∀ m us ds W, R m us ds W → c.wp P (Exit.then (fun a' w' => outOf idx a'.tmps = outOf idx t ∧ ∃ m', m' < m ∧ R m' (atOf idx a'.tmps) a'.defers w') Q) { tmps := over t (idx.zip us), defers := ds } W) : (Code.loop c).wp P Q { tmps := t, defers := ds0 } w := by
  refine wp_loop_ghost (fun m a' w' => ∃ us, a'.tmps = over t (idx.zip us) ∧ R m us a'.defers w') m0 ⟨_, over_of rfl, h0⟩ ?_
  rintro m ⟨t', ds⟩ W ⟨us, rfl, hR⟩
  refine Code.wp_mono (fun e a w q => ?_) (round m us ds W hR)
  cases e with
  | normal =>
    obtain ⟨ho, m', hm, hR'⟩ := q
    exact ⟨m', hm, _, over_of ho, hR'⟩
  | _ => exact q
end
end Go.Proofs.YtpkepgcmifdpfaaGreatDoor
end

section
namespace Go.Proofs.YtpkepgcmifdpfaaGreatDoor
open Go Go.RowKit
section tail
variable {P : Program} {Q : Exit → Act → World → Prop} {n : Nat}
theorem onlyK_of {K : Act → World → Prop} {a : Act} {w : World} (h : K a w) : onlyK K .normal a w := h
theorem wpIn_of_any {id r : Nat} {a : Act} {w : World} {l : List Oper} (hm : P.follows .mixedOrders = true) (hd : noDefer l.toArray = true)
    (h : wpAny P .any l.toArray (onlyK (Q .normal)) l.toArray.size (Array.replicate l.toArray.size false) a w.drew) : (Code.region id l.toArray true).wpIn (FR r) n P Q a w :=
  wpIn_mono (wpIn_region_any (Q := onlyK (Q .normal)) hm (lift_any hd onlyK_out _ _ _ _ h)) (fun e a w h => by cases e <;> first | exact h | exact h.elim)
theorem wpIn_region_kept_tail {id r : Nat} {a : Act} {w : World} {l : List Oper} (k B : Nat) (w0 : World) (hm : P.follows .mixedOrders = true) (hB : tailB l.toArray (Array.replicate l.toArray.size false) 0 k = true) (hd : noDefer l.toArray = true) (h0 : Below B w0 w)
    (h : wpQuiet P l.toArray (fun w' => ∃ u : Kept B w0, w' = u.val) (fun a' => ∀ w', (∃ u : Kept B w0, w' = u.val) → wpList P l.toArray (onlyK (Q .normal)) (l.drop k) a' w') ((l.take k).drop 0) a) : (Code.region id l.toArray true).wpIn (FR r) n P Q a w :=
  wpIn_of_any hm hd (wpAny_quiet_tail (C := fun w' => ∃ u : Kept B w0, w' = u.val) 0 k hB (by simp) ⟨⟨_, h0.drew⟩, rfl⟩ h)
theorem wpIn_region_keptN {id r : Nat} {a : Act} {w : World} {l : List Oper} (B : Nat) (w0 : World) (hm : P.follows .mixedOrders = true) (hB : Region.lexB .any l.toArray = true) (hd : noDefer l.toArray = true) (h0 : Below B w0 w)
    (h : wpQuiet P l.toArray (fun w' => ∃ u : Kept B w0, w' = u.val) (fun a' => ∀ w', (∃ u : Kept B w0, w' = u.val) → Q .normal a' w') l a) : (Code.region id l.toArray true).wpIn (FR r) n P Q a w :=
  wpIn_of_any hm hd (wpAny_kept (Q := onlyK (Q .normal)) B w0 hB h0 h)
end tail
section law
variable {P : Program}
def rPostN (l : Nat) (r : Loop) (I : World → Prop) (Ix : Code → World → Prop) : Exit → Act → World → Prop
  | .normal, _, W => Hold W l (.loop r) ∧ I W
  | .ret, _, W => Hold W l (.loop r) ∧ Ix .ret W
  | .exit id, _, W => Hold W l (.loop r) ∧ Ix (.exit id) W
  | .goto t, _, W => Hold W l (.loop r) ∧ Ix (.goto t) W
  | .panic _, _, _ => False
  | .outgrown, _, _ => False
theorem wp_range_in {α : Type} {g : Operand} {ps : Array Tmp} {assign body : Code} {Q : Exit → Act → World → Prop} {a : Act} {w : World} {l0 : Nat} {r0 : Loop} (hl0 : Hold w l0 (.loop r0)) {gf : Nat} {lb : Array Value} (hg : a.eval g = .func (.func gf) #[] lb) (eg : ∀ args w, (callFunc gf args).run P w = .ok (.enter gf args) w)
    {encs : α → Array Value} {L : List α} {Kp : World → Prop} (hseq : SeqP P gf lb encs L Kp) (hps : ∀ x, (encs x).size = ps.size)
    (I : List α → World → Prop) (Ix : Code → List α → World → Prop) (hI : OwnFrom w.heap.size I) (hIx : ∀ c, OwnFrom w.heap.size (Ix c)) (hIB : ∀ pre W, I pre W → Kp W) (h0 : I [] w)
    (hround : ∀ (r : Loop) (pre : List α) (x : α) (post : List α) (W : World), L = pre ++ x :: post → Hold W w.heap.size (.loop r) → I pre W →
      assign.wpIn (FR w.heap.size) 8 P (Exit.then (fun a' W' => Hold W' w.heap.size (.loop r) ∧ I pre W' ∧ ∃ A : World → Prop, OwnFrom w.heap.size (fun (_ : Unit) => A) ∧ A W' ∧
        ∀ (r'' : Loop) (W'' : World), Hold W'' w.heap.size (.loop r'') → I pre W'' → A W'' → body.wpIn (FR w.heap.size) 8 P (rPostN w.heap.size r'' (I (pre ++ [x])) (fun c => Ix c (pre ++ [x]))) a' W'') (fun _ _ _ => False))
        { tmps := (ps.zip (encs x)).foldl (fun t (p, v) => t.setIfInBounds p v) a.tmps, defers := [] } W)
    (hdone : ∀ (W : World), I L W → Q .normal a W)
    (hstop : ∀ (c : Code) (pre : List α) (W : World), Ix c pre W → c.wpIn (FR l0) 8 P Q a W) :
    (Code.rangeFunc g ps assign body).wpIn (FR l0) 8 P Q a w := by
  refine wpIn_rangeFunc ?_
  intro fn hfn
  obtain ⟨rec, hrec⟩ : ∃ rec : LoopState → Option Code → Loop, rec = fun st pe => { state := st, pending := pe, fn, tmps := a.tmps, params := ps, assign, body, defers := r0.defers } := ⟨_, rfl⟩
  obtain ⟨W1, hW1⟩ : ∃ W1, w.alloc (.loop (rec .ready none)) = W1 := ⟨_, rfl⟩
  have hL1 : W1.heap[w.heap.size]? = some (.loop (rec .ready none)) := by rw [← hW1]; exact World.alloc_heap_new w _
  have hI1 : I [] W1 := by rw [← hW1]; exact hI.alloc _ h0
  refine ⟨w.heap.size, [], W1, { target := .fn (.func gf) lb, args := #[.func (.yield w.heap.size) #[] #[]] }, W1, gf,
    #[.func (.yield w.heap.size) #[] #[]] ++ lb, W1, ?_, ?_, ?_, ?_, (fun hh => by simp [Fence.wide, Fence.inRound] at hh), ?_⟩
  · rw [← hW1, hrec]; exact run_enterLoop_inner hl0 _ _ _ _ _
  · simp only [resolve, hg]
    simp [go_sem]
  · intro f' hf'; trivial
  · simp [invoke, go_sem, eg]
  · have hnw : ∀ {A : World} {row : Option Nat}, (∀ r, row = some r → W1.heap.size ≤ r ∧ ∃ o : Obj, A.heap[r]? = some o ∧ o.isWalk = true) → (∀ r, row = some r → w.heap.size ≤ r ∧ ∃ o : Obj, A.heap[r]? = some o ∧ o.isCells = false) :=
      fun hr r e => by obtain ⟨hB, o, ho, hw⟩ := hr r e; exact ⟨by rw [← hW1] at hB; simp at hB; omega, o, ho, Obj.not_cells_of_walk hw⟩
    have hseq' := hseq w.heap.size
      (fun pre W => I pre W ∧ W.heap[w.heap.size]? = some (.loop (rec .ready none)))
      (fun pre W => ∃ c, Ix c pre W ∧ W.heap[w.heap.size]? = some (.loop (rec .done (some c))))
      W1
      (fun s A B row hs hg' hr => ⟨hI s A B row hs.1 hg' (hnw hr), (grownBy_keeps hg' (fun r e => (hr r e).2) hs.2 rfl).trans hs.2⟩)
      (fun s A B row hs hg' hr => by
        obtain ⟨c, hc, hl⟩ := hs
        exact ⟨c, hIx c s A B row hc hg' (hnw hr), (grownBy_keeps hg' (fun r e => (hr r e).2) hl rfl).trans hl⟩)
      (fun pre W h => hIB pre W h.1) ?_ ⟨hI1, hL1⟩
    · refine CallsIn.mono (F := Fence.wide) (callsIn_wide.2 (callsIn_wide.1 hseq')) ?_
      rintro e W2 ⟨⟨v, rfl⟩, (⟨hi, hl⟩ | ⟨pre, c, hi, hl⟩)⟩
      · exact ⟨none, _, by have := run_endLoop (P := P) hl (by rw [hrec]; simp); rw [hrec] at this; exact this, hdone _ (hI.putObj _ hi (Nat.le_refl _) hl rfl)⟩
      · exact ⟨some c, _, by have := run_endLoop (P := P) hl (by rw [hrec]; simp); rw [hrec] at this; exact this, hstop c pre _ ((hIx c).putObj _ hi (Nat.le_refl _) hl rfl)⟩
    · rintro pre x post W hLx ⟨hi, hl⟩
      have hy := run_yield (P := P) (args := encs x) hl (by rw [hrec]; exact hps x)
      rw [hrec] at hy
      refine ⟨fn, _, assign, body, hy, roundIn_of_wpIn hfn (wpIn_mono (hround (rec .ready none) pre x post W hLx hl hi) ?_)⟩
      clear hy
      intro e1 a' Wa hq
      cases e1 with
      | normal => ?_
      | _ => exact hq
      obtain ⟨hla, hia, A, hA, hax, hbody⟩ := hq
      have hlt : w.heap.size < Wa.heap.size := hla.lt
      refine ⟨_, run_beginRound hla (by rw [hrec]), ?_⟩
      have hl2 : (Wa.putObj w.heap.size (.loop { rec .ready none with state := .busy })).heap[w.heap.size]? = some (.loop { rec .ready none with state := .busy }) := World.putObj_heap_same hlt
      refine wpIn_mono (hbody { rec .ready none with state := .busy } _ hl2 (hI.putObj _ hia (Nat.le_refl _) hla rfl) (hA.putObj (s := ()) _ hax (Nat.le_refl _) hla rfl)) ?_
      have fin : ∀ (jump : Option Code) (W3 : World), Hold W3 w.heap.size (.loop { rec .ready none with state := .busy }) →
          (Instr.endRound w.heap.size jump).run P W3 = .ok (.bool jump.isNone) (W3.putObj w.heap.size (.loop (rec (if jump.isNone then .ready else .done) jump))) ∧
          (W3.putObj w.heap.size (.loop (rec (if jump.isNone then .ready else .done) jump))).heap[w.heap.size]? = some (.loop (rec (if jump.isNone then .ready else .done) jump)) := fun jump W3 hl3 => by
        have := run_endRound (P := P) jump hl3
        rw [hrec] at this ⊢
        exact ⟨this, World.putObj_heap_same hl3.lt⟩
      rintro e a3 W3 hp
      cases e with
      | normal =>
        obtain ⟨hl3, hi3⟩ := hp
        obtain ⟨hr, hl4⟩ := fin none W3 hl3
        exact ⟨_, _, hr, .inl ⟨rfl, hI.putObj _ hi3 (Nat.le_refl _) hl3 rfl, hl4⟩⟩
      | ret =>
        obtain ⟨hl3, hi3⟩ := hp
        obtain ⟨hr, hl4⟩ := fin (some .ret) W3 hl3
        exact ⟨_, _, hr, .inr ⟨rfl, .ret, (hIx _).putObj _ hi3 (Nat.le_refl _) hl3 rfl, hl4⟩⟩
      | exit id =>
        obtain ⟨hl3, hi3⟩ := hp
        obtain ⟨hr, hl4⟩ := fin (some (.exit id)) W3 hl3
        exact ⟨_, _, hr, .inr ⟨rfl, .exit id, (hIx _).putObj _ hi3 (Nat.le_refl _) hl3 rfl, hl4⟩⟩
      | goto t =>
        obtain ⟨hl3, hi3⟩ := hp
        obtain ⟨hr, hl4⟩ := fin (some (.goto t)) W3 hl3
        exact ⟨_, _, hr, .inr ⟨rfl, .goto t, (hIx _).putObj _ hi3 (Nat.le_refl _) hl3 rfl, hl4⟩⟩
      | panic ch => exact hp.elim
      | outgrown => exact hp.elim
end law
end Go.Proofs.YtpkepgcmifdpfaaGreatDoor
end

section
namespace Go.Proofs.YtpkepgcmifdpfaaGreatDoor
open Go Go.RowKit
def mrgF (f : Nat → Value) : Nat → List Value → List Nat → List Value
 | _, [], _ => []
 | _, x :: t, [] => x :: t
 | i, x :: t, j :: l => match Nat.beq i j with
  | true => f i :: mrgF f (i + 1) t l
  | false => x :: mrgF f (i + 1) t (j :: l)
def mrgL : Nat → List Value → List Value → List Nat → List Value
 | _, [], _, _ => []
 | _, x :: t, _, [] => x :: t
 | _, x :: t, [], _ :: _ => x :: t
 | i, x :: t, y :: t', j :: l => match Nat.beq i j with
  | true => y :: mrgL (i + 1) t t' l
  | false => x :: mrgL (i + 1) t t' (j :: l)
theorem mrgF_of {f : Nat → Value} : ∀ (i : Nat) (T T' : List Value) (idx : List Nat), T' = mrgL i T T' idx → (∀ k v, T'[k]? = some v → f (i + k) = v) → mrgF f i T idx = T'
 | _, [], _, _, h, _ => by rw [h]; unfold mrgF mrgL; rfl
 | _, _ :: _, T', [], h, _ => by rw [h]; unfold mrgF; cases T' <;> rfl
 | _, _ :: _, [], _ :: _, h, _ => by cases h
 | i, x :: t, y :: t', j :: l, h, hf => by
  have h0 := hf 0 y rfl
  have hf' : ∀ k v, t'[k]? = some v → f (i + 1 + k) = v := fun k v hk => by
   have := hf (k + 1) v (by simpa using hk)
   rwa [show i + 1 + k = i + (k + 1) by omega]
  unfold mrgL at h
  unfold mrgF
  cases hb : Nat.beq i j with
  | true =>
   rw [hb] at h
   simp only [List.cons.injEq, true_and] at h
   simp only
   rw [mrgF_of (i + 1) t t' l h hf', show f i = y from h0]
  | false =>
   rw [hb] at h
   simp only [List.cons.injEq] at h
   simp only
   rw [mrgF_of (i + 1) t t' (j :: l) h.2 hf', h.1]
theorem mrgL_self : ∀ (i : Nat) (T : List Value) (idx : List Nat), T = mrgL i T T idx
 | _, [], _ => by unfold mrgL; rfl
 | _, _ :: _, [] => by unfold mrgL; rfl
 | i, x :: t, j :: l => by
  unfold mrgL
  cases hb : Nat.beq i j with
  | true => simp only; rw [← mrgL_self (i + 1) t l]
  | false => simp only; rw [← mrgL_self (i + 1) t (j :: l)]
def slotF (T : List Value) (j : Nat) : Value := T.getD j undef
theorem mrgF_slot {i : Nat} {T T' : List Value} {idx : List Nat} (hi : i = 0) (h : T' = mrgL i T T' idx) : mrgF (slotF T') i T idx = T' := by
 subst hi
 refine mrgF_of 0 T T' idx h (fun k v hk => ?_)
 unfold slotF
 rw [Nat.zero_add, List.getD_eq_getElem?_getD, hk]
 rfl
theorem mrg_hit (f : Nat → Value) (i : Nat) (x : Value) (t : List Value) (l : List Nat) : mrgF f i (x :: t) (i :: l) = f i :: mrgF f (i + 1) t l := by
 conv => lhs; unfold mrgF
 rw [show Nat.beq i i = true from Nat.beq_refl i]
theorem mrg_miss (f : Nat → Value) {i j : Nat} (h : (i == j) = false) (x : Value) (t : List Value) (l : List Nat) : mrgF f i (x :: t) (j :: l) = x :: mrgF f (i + 1) t (j :: l) := by
 conv => lhs; unfold mrgF
 have hb : Nat.beq i j = false := by
  cases hb : Nat.beq i j with
  | false => rfl
  | true => rw [Nat.eq_of_beq_eq_true hb] at h; simp at h
 rw [hb]
theorem mrg_end (f : Nat → Value) (i : Nat) (x : Value) (t : List Value) : mrgF f i (x :: t) [] = x :: t := by unfold mrgF; rfl
theorem mrg_nil (f : Nat → Value) (i : Nat) (l : List Nat) : mrgF f i [] l = [] := by unfold mrgF; rfl
section
variable {P : Program}
theorem wp_loop_mrg {c : Code} {Q : Exit → Act → World → Prop} {T : List Value} {ds0 : List Deferred} {w : World} (idx : List Nat) (R : Nat → (Nat → Value) → List Deferred → World → Prop) (m0 : Nat) (h0 : R m0 (slotF T) ds0 w)
  (round : ∀ (c2 : Code) (T2 : List Value), Hid (c = c2) → Hid (T = T2) → ∀ m f ds W, R m f ds W → c2.wp P (Exit.then (fun a' w' => ∃ T', a'.tmps = T'.toArray ∧ T' = mrgL 0 T2 T' idx ∧ ∃ m', m' < m ∧ R m' (slotF T') a'.defers w') Q) { tmps := (mrgF f 0 T2 idx).toArray, defers := ds } W) : (Code.loop c).wp P Q { tmps := T.toArray, defers := ds0 } w := by
 refine wp_loop_ghost (fun m a' w' => ∃ f, a'.tmps = (mrgF f 0 T idx).toArray ∧ R m f a'.defers w') m0 ⟨slotF T, by rw [mrgF_slot rfl (mrgL_self 0 T idx)], h0⟩ ?_
 rintro m ⟨t', ds⟩ W ⟨f, rfl, hR⟩
 refine Code.wp_mono (fun e a w q => ?_) (round c T (Lib.hid rfl) (Lib.hid rfl) m f ds W hR)
 cases e with
 | normal =>
  obtain ⟨T', ht, hT, m', hm, hR'⟩ := q
  exact ⟨m', hm, slotF T', by rw [ht, mrgF_slot rfl hT], hR'⟩
 | _ => exact q
end
end Go.Proofs.YtpkepgcmifdpfaaGreatDoor
end
