/- A bundle of texts: CollP, Srtd, Ph8. -/
import Derived.Test.YtpkepgcmifdpfaaGreatDoorR31
import Derived.Shelf.SlIter.Collect
import Derived.RangeFuncGives
import Derived.Maps.AppendAt
import Derived.Shelf.Abstract
import Derived.Test.YtpkepgcmifdpfaaGreatDoorR26
section
namespace Go.Proofs.YtpkepgcmifdpfaaGreatDoor
open Go Go.RowKit Go.Maps Go.Sort Go.Shelf
set_option maxRecDepth 100000
abbrev encI (x : Int) : Value := .int .i64 x
def SeqBel (F : Fence) (n : Nat) (P : Program) (g : Nat) (lb : Array Value) (enc : Int → Value) (S : List Int → Prop) (N : Nat) (w : World) : Prop :=
  ∀ (l : Nat) (J : List Int → World → Prop) (W : World), Below w.heap.size w W → AbidesFrom W.heap.size J → (∀ pre W1, J pre W1 → Below w.heap.size w W1) →
    (∀ pre x W1, J pre W1 → pre.length < N → YieldAt F (n - 1) P l #[enc x] W1 fun e W' => e = .returned (.bool true) ∧ J (pre ++ [x]) W' ∧ KeepsWalks W1 W') →
    J [] W →
    CallsIn F n P g (#[.func (.yield l) #[] #[]] ++ lb) W fun e W' => (∃ v, e = .returned v) ∧ ∃ xs, S xs ∧ J xs W'
def apAssign : Code := (Code.region 2 #[{ dst := some 5, op := Op.assign (Operand.tmp 7), type := 3, pos := "iter.go:51", after := #[], guard := none }] false)
def apBody : Code := (Code.block 1 (Code.region 3 #[{ dst := some 8, op := Op.load (29) (Operand.tmp 2), type := 29, pos := "iter.go:52", after := #[], guard := none }, { dst := some 9, op := Op.move (Operand.tmp 5), type := 3, pos := "iter.go:52", after := #[], guard := none }, { dst := some 10, op := Op.buildSlice (29) 1 #[(0, Operand.tmp 9)], type := 29, pos := "iter.go:52", after := #[{ on := 1, ground := Ground.data }], guard := none }, { dst := some 11, op := Op.call { callee := Callee.builtin Builtin.append, args := #[Operand.tmp 8, Operand.tmp 10], argTypes := #[29, 29] }, type := 29, pos := "iter.go:52", after := #[{ on := 0, ground := Ground.data }, { on := 2, ground := Ground.data }], guard := none }, { dst := none, op := Op.store (29) (Operand.tmp 2) (Operand.tmp 11), type := 0, pos := "iter.go:52", after := #[{ on := 3, ground := Ground.data }, { on := 3, ground := Ground.chain }, { on := 0, ground := Ground.phase }, { on := 1, ground := Ground.phase }, { on := 2, ground := Ground.phase }, { on := 3, ground := Ground.phase }], guard := none }] false))
def apRec (fn : FuncId) (sv : Value) (Bs D : Nat) (st : LoopState) (pend : Option Code) : Loop :=
  { state := st, pending := pend, fn, tmps := #[.slice none 0 0, sv, .pointer (some ⟨Bs, 0, none⟩), undef, .slice none 0 0, undef, sv, undef, undef, undef, undef, undef, undef], params := #[7], assign := apAssign, body := apBody, defers := D }
structure ApAt (w0 : World) (fn : FuncId) (sv : Value) (Bs l D : Nat) (ss : List Int) (W : World) : Prop where
  box : ∃ v, W.heap[Bs]? = some (.cells #[v] (29) (0, 0)) ∧ W.ownsRow w0.heap.size (3) 1 v ss.length (ss.map encI) ∧ (v = .slice none 0 0 ↔ ss = [])
  L : W.heap[l]? = some (.loop (apRec fn sv Bs D .ready none))
  K : W.heap[D]? = some (.deferred (some []))
  below : Below w0.heap.size w0 W
theorem ap_abides (w0 : World) (fn : FuncId) (sv : Value) (Bs l D B : Nat) (hB : w0.heap.size ≤ B) : AbidesFrom B (ApAt w0 fn sv Bs l D) := fun s W W' row h hg hrow => by
  have hrow' : ∀ r, row = some r → ∃ o : Obj, W.heap[r]? = some o ∧ o.isWalk = true := fun r e => (hrow r e).2
  obtain ⟨v, hv, hr, hn⟩ := h.box
  exact ⟨⟨v, (grownBy_keeps hg hrow' hv rfl).trans hv, ownsRow_abides_a hr hg hrow', hn⟩, (grownBy_keeps hg hrow' h.L rfl).trans h.L, (grownBy_keeps hg hrow' h.K rfl).trans h.K,
    h.below.grown hg h.below.size (fun k e => Nat.le_trans hB (hrow k e).1)⟩
set_option maxRecDepth 100000 in
set_option maxHeartbeats 2000000 in
theorem apYield (F : Fence) (m : Nat) (w0 : World) (fn : FuncId) (hfn : F.fn fn) (sv : Value) (Bs l D : Nat) (hBl : Bs ≠ l) (hDl : D ≠ l) (hDB : D ≠ Bs) (h0B : w0.heap.size ≤ Bs) (h0l : w0.heap.size ≤ l)
    (N : Nat) (hN : N ≤ maxLen) (hNb : N * 8 ≤ 140737488355328) (ss : List Int) (x : Int) (W : World) (h : ApAt w0 fn sv Bs l D ss W) (hlen : ss.length < N) :
    YieldAt F m Tryz.prog l #[encI x] W fun e W' => e = .returned (.bool true) ∧ ApAt w0 fn sv Bs l D (ss ++ [x]) W' ∧ KeepsWalks W W' := by
  have hne : 29 ≠ 3 := by decide
  obtain ⟨i0, hi, hz0, hz1, hz2⟩ := info_parts intInfoP
  obtain ⟨v, hv, hrow, _⟩ := h.box
  refine ⟨fn, #[.slice none 0 0, sv, .pointer (some ⟨Bs, 0, none⟩), undef, .slice none 0 0, undef, sv, encI x, undef, undef, undef, undef, undef], apAssign, apBody, by simpa [apRec] using run_yield (P := Tryz.prog) (args := #[encI x]) h.L rfl, roundIn_of_wpIn hfn ?_⟩
  have hl : l < W.heap.size := (Array.getElem?_eq_some_iff.1 h.L).1
  have hbr := run_beginRound (P := Tryz.prog) h.L rfl
  obtain ⟨W2, hW2⟩ : ∃ W2, W.putObj l (.loop { apRec fn sv Bs D .ready none with state := .busy }) = W2 := ⟨_, rfl⟩
  rw [hW2] at hbr
  have hg2 : W.grownBy W2 (some l) := by rw [← hW2]; exact grownBy_putObj_a _ _ _
  have hk2 : KeepsWalks W W2 := by rw [← hW2]; exact KeepsWalks.putObj _ h.L rfl
  have hv2 : W2.heap[Bs]? = some (.cells #[v] (29) (0, 0)) := by rw [← hW2]; exact (World.putObj_heap_other hBl).trans hv
  have hK2 : W2.heap[D]? = some (.deferred (some [])) := by rw [← hW2]; exact (World.putObj_heap_other hDl).trans h.K
  have hL2 : W2.heap[l]? = some (.loop { apRec fn sv Bs D .ready none with state := .busy }) := by rw [← hW2]; exact World.putObj_heap_same hl
  have hrow2 : W2.ownsRow w0.heap.size (3) 1 v ss.length (ss.map encI) := hrow.kept hg2 (ownsRow_ne_a hrow h.L (fun cur e => by first | cases e | exact hne (Obj.cells.inj e).2.1))
  have hb2 : Below w0.heap.size w0 W2 := h.below.grown hg2 h.below.size (fun k e => by cases e; exact h0l)
  obtain ⟨hc2, hf2⟩ := cell_of_box_a hv2
  have hBlt : Bs < W2.heap.size := (Array.getElem?_eq_some_iff.1 hv2).1
  have hl2 : l < W2.heap.size := (Array.getElem?_eq_some_iff.1 hL2).1
  have hDlt : D < W2.heap.size := (Array.getElem?_eq_some_iff.1 hK2).1
  have ne_of : ∀ {j : Nat} {o : Obj}, W2.heap[j]? = some o → (∀ cur, o ≠ .cells cur (3) (0, 0)) → some j ≠ v.ownBlock := fun hj hno => by
    rcases ownsRow_ne_a hrow2 hj hno with e | e
    · rw [e]; simp
    · exact fun e' => e e'.symm
  clear hW2
  unfold apAssign
  gi_wp2_with (rw [Oper.semAt_eq _ _ _ (fun c h => by cases h)]; go_simp; try go_bits)
  unfold apBody
  gi_wp2_with (first
    | (gi_at_builtin; refine wpListIn_append_own _ rfl _ _ (29) rfl w0.heap.size (3) i0 (.int .i64 0) 1 8 Tryz.underlying29 hi hz0 hz1 hz2 rfl (by decide) _ _ _ rfl (hrow2.alloc _) ⟨W2.heap.size, 0, none⟩ 1 1 [encI x] rfl rfl (cell_one_new _ _ _) (by simp [Value.oneCell', encI]) (by omega) (by omega) (by have := hb2.size; simp; omega) ?_; intro v' w3 hown' hg3 hnil3
       have hv3 : w3.heap[Bs]? = some (.cells #[v] (29) (0, 0)) := (hg3.block Bs (by simp; omega) (ne_of hv2 (fun cur e => by first | cases e | exact hne (Obj.cells.inj e).2.1))).trans ((Below.heap_alloc _ _ Bs hBlt).trans hv2)
       obtain ⟨hc3, hf3⟩ := cell_of_box_a hv3
       obtain ⟨g', cap', cur', rfl, hbase', hgb', hr1, hr2, hr3, hr4⟩ : ∃ g' cap' cur', v' = .slice (some ⟨g', 0, none⟩) (ss.length + 1) cap' ∧ w0.heap.size ≤ g' ∧ w3.heap[g']? = some (.cells cur' (3) (0, 0)) ∧ ss.length + 1 ≤ cap' ∧ cap' ≤ maxLen ∧ cur'.size = cap' * 1 ∧ cur'.toList.take ((ss.length + 1) * 1) = ss.map encI ++ [encI x] := by
         rcases hown'.2 with ⟨_, h0⟩ | h'
         · exact absurd h0 (by omega)
         · exact h'
       go_frame)
    | (rw [Oper.semAt_eq _ _ _ (fun c h => by cases h)]; go_simp; try go_bits))
  have hg3' : (W2.alloc (.cells #[encI x] (3))).grownBy w3 v.ownBlock := hg3
  have hL3 : w3.heap[l]? = some (.loop { apRec fn sv Bs D .ready none with state := .busy }) := (hg3'.block l (by simp; omega) (ne_of hL2 (fun cur e => by first | cases e | exact hne (Obj.cells.inj e).2.1))).trans ((Below.heap_alloc _ _ l hl2).trans hL2)
  have hK3 : w3.heap[D]? = some (.deferred (some [])) := (hg3'.block D (by simp; omega) (ne_of hK2 (fun cur e => by first | cases e | exact hne (Obj.cells.inj e).2.1))).trans ((Below.heap_alloc _ _ D hDlt).trans hK2)
  obtain ⟨w4, hw4⟩ : ∃ w4, w3.setCell ⟨Bs, 0, none⟩ (.slice (some ⟨g', 0, none⟩) (ss.length + 1) cap') = w4 := ⟨_, rfl⟩
  rw [hw4]
  have hg4 : w3.grownBy w4 (some Bs) := by rw [← hw4]; exact grownBy_setCell0_a _ _ _
  have hv4 : w4.heap[Bs]? = some (.cells #[.slice (some ⟨g', 0, none⟩) (ss.length + 1) cap'] (29) (0, 0)) := by rw [← hw4]; exact heap_setCell_box_a _ hv3
  have hL4 : w4.heap[l]? = some (.loop { apRec fn sv Bs D .ready none with state := .busy }) := (hg4.block l (Array.getElem?_eq_some_iff.1 hL3).1 (fun e => hBl (by cases e; rfl))).trans hL3
  have hK4 : w4.heap[D]? = some (.deferred (some [])) := (hg4.block D (Array.getElem?_eq_some_iff.1 hK3).1 (fun e => hDB (by cases e; rfl))).trans hK3
  have hrow4 := hown'.kept hg4 (ownsRow_ne_a hown' hv3 (fun cur e => by first | cases e | exact hne (Obj.cells.inj e).2.1))
  have hl4 : l < w4.heap.size := (Array.getElem?_eq_some_iff.1 hL4).1
  have hb3 : Below w0.heap.size w0 w3 := (hb2.alloc hb2.size _).grown hg3' (by have := hb2.size; simp; omega) (fun k e => (hrow2.lt k e).1)
  have hb4 : Below w0.heap.size w0 w4 := hb3.grown hg4 hb3.size (fun k e => by cases e; exact h0B)
  have hk4 : KeepsWalks W w4 := ((hk2.trans (KeepsWalks.alloc _ _)).trans (KeepsWalks.of_grownBy hg3' (ownsRow_not_walk_a (hrow2.alloc _)))).trans (by rw [← hw4]; exact KeepsWalks.setCell _ _ _)
  clear hw4
  refine ⟨_, _, run_endRound none hL4, rfl, ⟨⟨_, (World.putObj_heap_other hBl).trans hv4, ?_, by simp⟩, World.putObj_heap_same hl4, (World.putObj_heap_other hDl).trans hK4, hb4.grown (grownBy_putObj_a _ _ _) hb4.size (fun k e => by cases e; exact h0l)⟩, hk4.trans (KeepsWalks.putObj _ hL4 rfl)⟩
  have := hrow4.kept (grownBy_putObj_a w4 l (.loop { { apRec fn sv Bs D .ready none with state := .busy } with state := if (none : Option Code).isNone then .ready else .done, pending := none })) (ownsRow_ne_a hrow4 hL4 (fun cur e => by first | cases e | exact hne (Obj.cells.inj e).2.1))
  simpa using this
set_option maxRecDepth 100000 in
set_option maxHeartbeats 2000000 in
theorem appendSeq_in (F : Fence) (n : Nat) (h11 : F.fn 99) (hro : F.round = none) (hn : 2 ≤ n) (g : Nat) (lb : Array Value) (hFg : F.fn g) (eg : ∀ args w, (callFunc g args).run Tryz.prog w = .ok (.enter g args) w)
    (S : List Int → Prop) (N : Nat) (hN : N ≤ maxLen) (hNb : N * 8 ≤ 140737488355328) (w : World) (hseq : SeqBel F (n - 1) Tryz.prog g lb encI S N w) :
    CallsIn F n Tryz.prog 99 #[.slice none 0 0, .func (.func g) #[] lb] w fun e w' => ∃ (v : Value) (ss : List Int), e = .returned v ∧ S ss ∧ w'.ownsRow w.heap.size (3) 1 v ss.length (ss.map encI) ∧ (v = .slice none 0 0 ↔ ss = []) ∧ Below w.heap.size w w' := by
  have h1 : 1 ≤ n := by omega
  have hne : 29 ≠ 3 := by decide
  refine callsIn_of_wp_marks Tryz.func99 rfl h11 ?_ hro
  simp only [Tryz.ntmps99, List.size_toArray, List.length_cons, List.length_nil, Nat.reduceAdd, Nat.reduceSub, Array.replicate_succ, Array.replicate_zero, List.push_toArray, List.append_toArray, List.nil_append, List.cons_append]
  gi_wp2
  refine wpIn_rangeFunc ?_
  intro fn hfn
  rw [hro]
  obtain ⟨W0, hW0⟩ : ∃ W0, w.alloc (.cells #[.slice none 0 0] (29)) = W0 := ⟨_, rfl⟩
  have hs0 : W0.heap.size = w.heap.size + 1 := by rw [← hW0]; simp
  have hv0 : W0.heap[w.heap.size]? = some (.cells #[.slice none 0 0] (29) (0, 0)) := by rw [← hW0]; exact World.alloc_heap_new w _
  have hb0 : Below w.heap.size w W0 := by rw [← hW0]; exact (Below.refl _ w).alloc (Nat.le_refl _) _
  rw [hW0]
  obtain ⟨W1, hW1⟩ : ∃ W1, (W0.alloc (.deferred (some []))).alloc (.loop (apRec fn (.func (.func g) #[] lb) w.heap.size W0.heap.size .ready none)) = W1 := ⟨_, rfl⟩
  have hold : ∀ k, k < W0.heap.size → W1.heap[k]? = W0.heap[k]? := fun k hk => by
    rw [← hW1]; exact (Below.heap_alloc _ _ k (by simp; omega)).trans (Below.heap_alloc _ _ k hk)
  have hb1 : Below w.heap.size w W1 := by rw [← hW1]; exact (hb0.alloc hb0.size _).alloc (by have := hb0.size; simp; omega) _
  have hs1 : W1.heap.size = W0.heap.size + 2 := by rw [← hW1]; simp
  have hM : ApAt w fn (.func (.func g) #[] lb) w.heap.size (W0.heap.size + 1) W0.heap.size [] W1 :=
    ⟨⟨_, (hold w.heap.size (by omega)).trans hv0, ⟨rfl, .inl ⟨rfl, rfl⟩⟩, by simp⟩,
     by rw [← hW1]; have := World.alloc_heap_new (W0.alloc (.deferred (some []))) (.loop (apRec fn (.func (.func g) #[] lb) w.heap.size W0.heap.size .ready none)); rwa [World.size_alloc] at this,
     by rw [← hW1]; exact (Below.heap_alloc _ _ _ (by simp)).trans (World.alloc_heap_new W0 _), hb1⟩
  refine ⟨W0.heap.size + 1, [{ target := .collected W0.heap.size, args := #[] }], W1, { target := .fn (.func g) lb, args := #[.func (.yield (W0.heap.size + 1)) #[] #[]] }, W1, g,
    #[.func (.yield (W0.heap.size + 1)) #[] #[]] ++ lb, W1, ?_, ?_, ?_, ?_, fun _ => h1, ?_⟩
  · rw [← hW1]; exact run_enterLoop_outer _ _ _ _ _
  · simp [resolve, go_sem]
  · intro f' hf'; simp [Target.leads] at hf'; subst hf'; exact hFg
  · simp [invoke, go_sem, eg]
  · refine (hseq (W0.heap.size + 1) (ApAt w fn (.func (.func g) #[] lb) w.heap.size (W0.heap.size + 1) W0.heap.size) W1 hb1 (ap_abides _ _ _ _ _ _ _ hb1.size) (fun pre W1 h => h.below)
      (fun pre x W hJ hl => apYield F (n - 1 - 1) w fn hfn _ w.heap.size (W0.heap.size + 1) W0.heap.size (by omega) (by omega) (by omega) (Nat.le_refl _) (by omega) N hN hNb pre x W hJ hl) hM).mono ?_
    rintro e W2 ⟨⟨v0, rfl⟩, ss, hS, h2⟩
    obtain ⟨v, hv, hrow, hnil⟩ := h2.box
    have hend := run_endLoop (P := Tryz.prog) h2.L (by simp [apRec])
    obtain ⟨W3, hW3⟩ : ∃ W3, W2.putObj (W0.heap.size + 1) (.loop { apRec fn (.func (.func g) #[] lb) w.heap.size W0.heap.size .ready none with state := .exhausted }) = W3 := ⟨_, rfl⟩
    rw [hW3] at hend
    have hg3 : W2.grownBy W3 (some (W0.heap.size + 1)) := by rw [← hW3]; exact grownBy_putObj_a _ _ _
    have hv3 : W3.heap[w.heap.size]? = some (.cells #[v] (29) (0, 0)) := by rw [← hW3]; exact (World.putObj_heap_other (by omega)).trans hv
    have hK3 : W3.heap[W0.heap.size]? = some (.deferred (some [])) := by rw [← hW3]; exact (World.putObj_heap_other (by omega)).trans h2.K
    have hrow3 := hrow.kept hg3 (ownsRow_ne_a hrow h2.L (fun cur e => by first | cases e | exact hne (Obj.cells.inj e).2.1))
    have hb3 : Below w.heap.size w W3 := h2.below.grown hg3 h2.below.size (fun k e => by cases e; omega)
    obtain ⟨hc3, hf3⟩ := cell_of_box_a hv3
    clear hW3
    refine ⟨none, W3, hend, ?_⟩
    gi_wp2
    rw [← hs0]
    refine ⟨by simp, .inl ⟨_, _, rfl, run_takeDeferred hK3, ?_⟩⟩
    exact ⟨_, results_tmp rfl _ _ _, v, ss, rfl, hS, hrow3.kept (grownBy_putObj_a _ _ _) (ownsRow_ne_a hrow3 hK3 (fun cur e => by first | cases e | exact hne (Obj.cells.inj e).2.1)), hnil, hb3.grown (grownBy_putObj_a _ _ _) hb3.size (fun k e => by cases e; omega)⟩
set_option maxHeartbeats 1000000 in
theorem collect_in (F : Fence) (n : Nat) (h8 : F.fn 68) (h11 : F.fn 99) (hro : F.round = none) (hn : 3 ≤ n) (g : Nat) (lb : Array Value) (hFg : F.fn g) (eg : ∀ args w, (callFunc g args).run Tryz.prog w = .ok (.enter g args) w)
    (S : List Int → Prop) (N : Nat) (hN : N ≤ maxLen) (hNb : N * 8 ≤ 140737488355328) (w : World) (hseq : SeqBel F (n - 1 - 1) Tryz.prog g lb encI S N w) :
    CallsIn F n Tryz.prog 68 #[.func (.func g) #[] lb] w fun e w' => ∃ (v : Value) (ss : List Int), e = .returned v ∧ S ss ∧ w'.ownsRow w.heap.size (3) 1 v ss.length (ss.map encI) ∧ (v = .slice none 0 0 ↔ ss = []) ∧ Below w.heap.size w w' := by
  have h1 : 1 ≤ n := by omega
  have e11 : ∀ args w, (callFunc 99 args).run Tryz.prog w = .ok (.enter 99 args) w := enters_of Tryz.func99 (by kernel_rfl) rfl
  refine callsIn_of_wp Tryz.func68 rfl h8 ?_ hro
  simp only [Tryz.ntmps68, List.size_toArray, List.length_cons, List.length_nil, Nat.reduceAdd, Nat.reduceSub, Array.replicate_succ, Array.replicate_zero, List.push_toArray, List.append_toArray, List.nil_append, List.cons_append]
  gi_wp2_with (gi_at_fn 99; refine (appendSeq_in F (n - 1) h11 hro (by omega) g lb hFg eg S N hN hNb _ hseq).mono ?_; rintro e w' ⟨v, ss, rfl, hS, hrow, hnil, hb⟩)
  go_ret
  exact ⟨v, ss, rfl, hS, hrow, hnil, hb⟩
end Go.Proofs.YtpkepgcmifdpfaaGreatDoor
end

section
namespace Go.Proofs.YtpkepgcmifdpfaaGreatDoor
open Go Go.RowKit Go.Maps Go.Sort Go.Shelf
set_option maxRecDepth 100000
abbrev vlF (b : Nat) : Value := .func (.func 70) #[] #[.pointer (some ⟨b, 0, none⟩)]
set_option maxHeartbeats 4000000 in
theorem values_ok (A : Option Addr) (n c : Nat) (w : World) : Calls Tryz.prog 45 #[.slice A n c] w fun e w' => e = .returned (vlF w.heap.size) ∧ Below w.heap.size w w' ∧ Box w' w.heap.size #[.slice A n c] 29 := by
  obtain ⟨V, HW, x0, hB, -⟩ := boxes1 w #[.slice A n c] 29
  have hmf := hmfT
  go_enter Tryz.func45, Tryz.ntmps45
  go_wp2
  rw [HW.out]
  go_ret
  exact ⟨rfl, hB, x0⟩
set_option maxHeartbeats 8000000 in
theorem values_bel (b c : Nat) (A : Option Addr) (xs : List Int) (w : World) (hb : Box w b #[.slice A xs.length c] 29) (hS : Sl 1 icell w w.heap.size A xs) (hlen : xs.length ≤ 1000000) :
    SeqBel Fence.wide 9 Tryz.prog 70 #[.pointer (some ⟨b, 0, none⟩)] encI (fun ss => ss = xs) xs.length w := by
  intro l J V hwV hJ hJb hY h0
  refine callsIn_wide.2 ?_
  have c0 := (hb.below hwV).c1
  have HL := Lib.hid hS
  have HJB := Lib.hid hJb
  clear hb hJb
  go_enter Tryz.func70, Tryz.ntmps70
  go_wp2_with fail
  clear c0
  go_loopw [4, 7] (fun _ i wr => ∃ k : Nat, k ≤ xs.length ∧ i = .int .i64 k ∧ J (xs.take k) wr) (fun _ i _ => xs.length - (intOf i).toNat)
  case atStart => exact ⟨0, Nat.zero_le _, rfl, h0⟩
  case round =>
    obtain ⟨k, hk, rfl, hJp⟩ := hrel
    by_cases hlt : k < xs.length
    · have x0 : (0 : Int) ≤ (k : Int) := by omega
      have x1 : (k : Int) < (xs.length : Int) := by omega
      have q0 : decide ((k : Int) < (xs.length : Int)) = true := decide_eq_true x1
      have hbw := HJB.out _ _ hJp
      obtain ⟨ad, hA, hab, a0⟩ := (HL.out.below hbw).int1 hlt
      have HTK : Hid (xs.take (k + 1) = xs.take k ++ [xs[k]]) := Lib.hid (List.take_succ_eq_append_getElem hlt)
      obtain ⟨fn, tmps, assign, body, hy, hR⟩ := hY (xs.take k) xs[k] wr hJp (by simp; omega)
      have HAA := Lib.hid hA
      subst hA
      clear hY hJp h0 hbw
      refine (wpIn_wide (n := 9)).1 ?_
      gi_wp2_with fail
      clear a0
      refine hR.mono ?_
      rintro e W3 ⟨rfl, hJ3, hk3⟩
      rw [← HTK.out] at hJ3
      gi_wp2_with fail
      go_roundw
      case rel => exact ⟨k + 1, hlt, by go_num, hJ3⟩
      case measure => simp [intOf]; omega
    · obtain rfl : k = xs.length := by omega
      have q0 : decide ((xs.length : Int) < (xs.length : Int)) = false := decide_eq_false (by omega)
      rw [List.take_length] at hJp
      clear hY h0
      go_wp2_with fail
      go_end0
      exact ⟨⟨_, rfl⟩, xs, rfl, hJp⟩
theorem encI_flat (xs : List Int) : xs.map encI = flat 1 icell xs := (flat_ints xs).symm
set_option maxHeartbeats 8000000 in
theorem sorted_ok (b c : Nat) (A : Option Addr) (xs : List Int) (w : World) (hb : Box w b #[.slice A xs.length c] 29) (hS : Sl 1 icell w w.heap.size A xs) (hlen : xs.length ≤ 1000000) :
    Calls Tryz.prog 44 #[vlF b] w fun e w' => ∃ v, e = .returned v ∧ w'.ownsRow w.heap.size 3 1 v xs.length (flat 1 icell (M.isort xs)) ∧ Below w.heap.size w w' := by
  have kC : Calls Tryz.prog 68 #[vlF b] w _ := (callsIn_wide (n := 11)).1 (collect_in Fence.wide 11 trivial trivial rfl (by omega) 70 #[.pointer (some ⟨b, 0, none⟩)] trivial (enters_of Tryz.func70 (by kernel_rfl) rfl) _ _ (by unfold maxLen; omega) (by omega) w (values_bel b c A xs w hb hS hlen))
  go_enter Tryz.func44, Tryz.ntmps44
  go_wp2_with fail
  refine kC.mono ?_
  rintro e w1 ⟨v, ss, rfl, rfl, hrow, -, hb1⟩
  clear kC
  rw [encI_flat] at hrow
  have kS := sortP_any hrow hlen
  go_wp2_with fail
  refine kS.mono ?_
  rintro e w2 ⟨rfl, hrow2, hg2⟩
  go_wp2_with fail
  go_ret
  exact ⟨v, rfl, hrow2, hb1.grown hg2 hb1.size (fun k e => (hrow.lt k e).1)⟩
end Go.Proofs.YtpkepgcmifdpfaaGreatDoor
end

section
namespace Go.Proofs.YtpkepgcmifdpfaaGreatDoor
open Go Go.RowKit Go.Maps
set_option maxRecDepth 100000
structure PhS where
  A : Option Addr
  c : Nat
  xs : List Int
  s : Nat
  e : Nat
def phcell (p : PhS) (j : Nat) : Value := match j with
  | 0 => .slice p.A p.xs.length p.c
  | 1 => .int .i64 (p.s : Nat)
  | _ => .int .i64 (p.e : Nat)
theorem ph_one (p : PhS) (j : Nat) : (phcell p j).oneCell' = true := by rcases j with _ | _ | j <;> rfl
theorem phaseInfo : (Tryz.prog.info? 48).map (fun i => (i.zero, i.size, i.bytes)) = some (some (.agg #[.slice none 0 0, .int .i64 0, .int .i64 0]), 3, 40) := by kernel_rfl
namespace M
def tmS (t : Tr) (plan : List (List Int)) (k : Nat) : Nat := ((plan.take k).map (phLen t)).sum
theorem tmS_zero (t : Tr) (plan : List (List Int)) : tmS t plan 0 = 0 := by simp [tmS]
theorem tmS_succ (t : Tr) (plan : List (List Int)) {k : Nat} (hk : k < plan.length) : tmS t plan (k + 1) = tmS t plan k + phLen t plan[k] := by
  unfold tmS
  rw [List.take_succ_eq_append_getElem hk, List.map_append, List.sum_append]
  simp
def PhasesTo (t : Tr) (plan : List (List Int)) (k : Nat) (ps : List PhS) : Prop := ps.length = k ∧ ∀ i (hi : i < ps.length) (hj : i < plan.length), ps[i].xs = isort plan[i] ∧ ps[i].s = tmS t plan i ∧ ps[i].e = tmS t plan (i + 1)
theorem PhasesTo.push {t : Tr} {plan : List (List Int)} {k : Nat} {ps : List PhS} (h : PhasesTo t plan k ps) (hk : k < plan.length) {p : PhS} (h1 : p.xs = isort plan[k]) (h2 : p.s = tmS t plan k) (h3 : p.e = tmS t plan (k + 1)) : PhasesTo t plan (k + 1) (ps ++ [p]) := by
  refine ⟨by rw [List.length_append, h.1]; rfl, fun i hi hj => ?_⟩
  by_cases e : i < ps.length
  · rw [List.getElem_append_left e]; exact h.2 i e hj
  · have hik : i = k := by have := h.1; rw [List.length_append] at hi; simp at hi; omega
    subst hik
    have hx : (ps ++ [p])[i] = p := by
      rw [List.getElem_append_right (by omega)]
      simp
    rw [hx]
    exact ⟨h1, h2, h3⟩
theorem phPlan_zero {t : Tr} {plan : List (List Int)} (h : phPlan t plan = 0) : legal t.ps t.l plan = 0 ∧ (∀ s ∈ plan, s ≠ []) ∧ ∀ s ∈ plan, small t s = true := by
  unfold phPlan at h
  split at h
  · rename_i h1; exact absurd h h1
  · rename_i h1
    refine ⟨by simpa using h1, ?_⟩
    split at h
    · rename_i h2
      split at h
      · rename_i h3
        refine ⟨fun s hs e => ?_, fun s hs => List.all_eq_true.1 h3 s hs⟩
        have := List.all_eq_true.1 h2 s hs
        rw [e] at this; cases this
      · cases h
    · cases h
theorem tmS_le {t : Tr} (hg : trGood t) {plan : List (List Int)} (h : ∀ s ∈ plan, small t s = true) (k : Nat) (hk : k ≤ plan.length) : tmS t plan k ≤ 1048576 * k := by
  induction k with
  | zero => simp [tmS]
  | succ k ih =>
    rw [tmS_succ t plan (by omega)]
    have h1 := h plan[k] (List.getElem_mem (by omega))
    unfold small at h1
    simp only [Bool.and_eq_true, decide_eq_true_eq] at h1
    have := hg.1.2.2.2.2.2.2
    have := ih (by omega)
    omega
end M
structure PHW (W : World) (base : Nat) (v : Value) (ps : List PhS) : Prop where
  outer : W.ownsRow base 48 3 v ps.length (flat 3 phcell ps)
  inner : ∀ p ∈ ps, W.ownsRow base 3 1 (.slice p.A p.xs.length p.c) p.xs.length (flat 1 icell p.xs)
theorem PHW.below {W W' : World} {base : Nat} {v : Value} {ps : List PhS} (h : PHW W base v ps) (hb : Below W.heap.size W W') : PHW W' base v ps := ⟨own_below h.outer hb, fun p hp => own_below (h.inner p hp) hb⟩
theorem PHW.push {W W' : World} {base : Nat} {v v' : Value} {ps : List PhS} {p : PhS} (h : PHW W base v ps) (hi : W.ownsRow base 3 1 (.slice p.A p.xs.length p.c) p.xs.length (flat 1 icell p.xs)) (ho : W'.ownsRow base 48 3 v' (ps.length + 1) (flat 3 phcell (ps ++ [p]))) (hg : W.grownBy W' v.ownBlock) : PHW W' base v' (ps ++ [p]) := by
  refine ⟨by rw [List.length_append]; exact ho, fun q hq => ?_⟩
  rcases List.mem_append.1 hq with hq | hq
  · exact (h.inner q hq).kept hg (own_apart (by decide) (h.inner q hq) h.outer)
  · rw [List.mem_singleton.1 hq]; exact hi.kept hg (own_apart (by decide) hi h.outer)
structure PHL (w : World) (A : Option Addr) (ps : List PhS) : Prop where
  outer : Sl 3 phcell w w.heap.size A ps
  inner : ∀ p ∈ ps, Sl 1 icell w w.heap.size p.A p.xs
theorem PHL.next {w w' : World} {A : Option Addr} {ps : List PhS} (h : PHL w A ps) (hb : Below w.heap.size w w') : PHL w' A ps := ⟨(h.outer.below hb).more hb.size, fun s hs => ((h.inner s hs).below hb).more hb.size⟩
set_option maxHeartbeats 32000000 in
theorem Timed_ok (a : TrA) (t : Tr) (OA : Option Addr) (oc : Nat) (os : List SLc) (w : World) (ht : Tab64 w) (hm : TrM w a t) (hO : LL w OA os) (ho : PlanOk os) :
    Calls Tryz.prog 19 #[trV a t, .slice OA os.length oc] w fun e w' => (∃ er, M.trIs t er ∧ ((er ≠ 0 ∧ e = .returned (.tuple #[.slice none 0 0, .int .i64 er])) ∨ (er = 0 ∧ ((M.phPlan t (os.map (·.xs)) ≠ 0 ∧ e = .returned (.tuple #[.slice none 0 0, .int .i64 (M.phPlan t (os.map (·.xs)))])) ∨ (M.phPlan t (os.map (·.xs)) = 0 ∧ ∃ A c ps, e = .returned (.tuple #[.slice A ps.length c, .int .i64 0]) ∧ PHL w' A ps ∧ M.PhasesTo t (os.map (·.xs)) os.length ps))))) ∧ Below w.heap.size w w' := by
  obtain ⟨ip, hip, hzp0, hzp1, hzp2⟩ := info_parts phaseInfo
  have Hip := Lib.hid hip; have Hzp0 := Lib.hid hzp0; have Hzp1 := Lib.hid hzp1; have Hzp2 := Lib.hid hzp2
  clear hip hzp0 hzp1 hzp2
  obtain ⟨X, HX, x0, hB, -⟩ := boxes1 w (trc a t) 28
  have hX := HX.out
  have tx := hm.next hB
  obtain ⟨c0, c1, c2, c3, c4, c5⟩ := x0.c6
  have kB := build_ok a t X tx
  have HOO := Lib.hid ho
  have hol := ho.1
  clear ho
  go_enter Tryz.func19, Tryz.ntmps19
  go_wp2_with fail
  clear hX c0 c1 c2 c3 c4 c5
  refine kB.mono ?_
  rintro e w1 ⟨⟨er, her, hc⟩, hb1⟩
  clear kB
  have B1 := after_ hB hb1
  have HER := Lib.hid her
  clear her
  rcases hc with ⟨hne, rfl⟩ | ⟨rfl, b, rfl, hbb, hmd⟩
  · have q0 : (er == 0) = false := by simpa using hne
    have q1 : (er != 0) = true := by simpa using hne
    have HE0 := Lib.hid hne
    clear hne
    go_wp2_with fail
    go_ret2
    exact ⟨⟨er, HER.out, .inl ⟨HE0.out, rfl⟩⟩, B1⟩
  have kS := plan_ok b a t OA oc os w1 (ht.kept B1) hmd (hO.next B1) HOO.out
  obtain ⟨pl, hpl⟩ : ∃ pl, M.phPlan t (os.map (·.xs)) = pl := ⟨_, rfl⟩
  rw [hpl] at kS
  have HPL := Lib.hid hpl
  clear hpl
  go_wp2_with fail
  refine kS.mono ?_
  rintro e w2 ⟨rfl, hb2⟩
  clear kS
  have B2 := after_ B1 hb2
  have md2 := hmd.next hb2
  by_cases hp0 : pl = 0
  case neg =>
    have q0 : (pl == 0) = false := by simpa using hp0
    have q1 : (pl != 0) = true := by simpa using hp0
    have HE0 := Lib.hid hp0
    clear hp0
    go_wp2_with fail
    go_ret2
    exact ⟨⟨0, HER.out, .inr ⟨rfl, .inl ⟨by rw [HPL.out]; exact HE0.out, by rw [HPL.out]; rfl⟩⟩⟩, B2⟩
  subst hp0
  obtain ⟨-, -, hsm⟩ := M.phPlan_zero HPL.out
  have HTL := Lib.hid (M.tmS_le hmd.good hsm)
  have hpml : (os.map (·.xs)).length = os.length := by simp
  have HPM := Lib.hid hpml
  have HSM := Lib.hid hsm
  have HLW := Lib.hid hmd.good.1.2.2.2.2.2.2
  clear hsm hpml hmd
  go_wp2_with fail
  go_loopw [9, 10, 12, 13, 30] (fun v s _ _ i wr => ∃ (k : Nat) (ps : List PhS), k ≤ os.length ∧ i = .int .i64 k ∧ s = .int .i64 (M.tmS t (os.map (·.xs)) k : Nat) ∧ Below w2.heap.size w2 wr ∧ PHW wr w2.heap.size v ps ∧ ps.length = k ∧ Hid (M.PhasesTo t (os.map (·.xs)) k ps)) (fun _ _ _ _ i _ => os.length - (intOf i).toNat)
  case atStart => exact ⟨0, [], Nat.zero_le _, rfl, by rw [M.tmS_zero]; rfl, Below.refl _ _, ⟨own_nil _ _ _ 3 phcell, fun p h => absurd h (by simp)⟩, rfl, Lib.hid ⟨rfl, fun i hi => absurd hi (by simp)⟩⟩
  case round =>
    obtain ⟨k, ps, hk, rfl, rfl, hBr, hpw, hps, HPT⟩ := hrel
    have HPSL := Lib.hid hps
    have BW := B2.trans (hBr.mono B2.size)
    by_cases hlt : k < os.length
    · have hLr := hO.next BW
      obtain ⟨la, hla, hlb, a0⟩ := hLr.outer.sl1 hlt
      have x0 : (0 : Int) ≤ (k : Int) := by omega
      have y0 : (k : Int) < (os.length : Int) := by omega
      have q0 : decide ((k : Int) < (os.length : Int)) = true := decide_eq_true y0
      obtain ⟨ho1, ho2⟩ := HOO.out.2 os[k] (List.getElem_mem hlt)
      have hin := hLr.inner _ (List.getElem_mem hlt)
      have hat : (os.map (·.xs))[k]'(by rw [HPM.out]; exact hlt) = os[k].xs := by simp
      have HAT := Lib.hid hat
      have HTS : Hid (M.tmS t (os.map (·.xs)) (k + 1) = M.tmS t (os.map (·.xs)) k + M.phLen t os[k].xs) := Lib.hid (by rw [M.tmS_succ t _ (by rw [HPM.out]; exact hlt), hat])
      have ht1 := HTL.out k (by rw [HPM.out]; omega)
      have hl2 : M.phLen t os[k].xs ≤ 1048576 := by
        have h1 := HSM.out os[k].xs (List.mem_map.2 ⟨_, List.getElem_mem hlt, rfl⟩)
        unfold M.small at h1
        simp only [Bool.and_eq_true, decide_eq_true_eq] at h1
        have := HLW.out
        omega
      have kL := length_ok b a t os[k].A os[k].c os[k].xs wr (md2.next hBr) hin ho1 ho2
      clear hat ho2 hps
      generalize hst : M.tmS t (os.map (·.xs)) k = st at *
      have HST := Lib.hid hst
      clear hst
      generalize hpn : M.phLen t os[k].xs = pn at *
      have HPN := Lib.hid hpn
      clear hpn
      obtain ⟨sc, hsc⟩ : ∃ sc, os[k] = sc := ⟨_, rfl⟩
      rw [hsc] at a0 hin ho1 kL HAT
      have HSC := Lib.hid hsc
      clear hsc
      obtain ⟨sA, scp, sxs⟩ := sc
      dsimp only at a0 hin ho1 kL HAT
      subst hla
      go_wp2_with fail
      refine kL.mono ?_
      rintro e w5 ⟨rfl, hb5⟩
      clear kL
      go_wp2_with fail
      refine (values_ok sA sxs.length scp w5).mono ?_
      rintro e w6 ⟨rfl, hb6, bx⟩
      have hb56 := after_ hb5 hb6
      have kS := sorted_ok w5.heap.size scp sA sxs w6 bx ((hin.below hb56).more hb56.size) ho1
      go_wp2_with fail
      refine kS.mono ?_
      rintro e w7 ⟨vS, rfl, ownS, hb7⟩
      clear kS
      have hb57 := after_ hb56 hb7
      have B7 := after_ hBr hb57
      obtain ⟨SA, scc, rfl, -⟩ := own_slice (by decide) ownS
      have hpw7 := hpw.below hb57
      have ownS2 := own_base ownS (Nat.le_trans hBr.size hb56.size)
      have HCS : Hid ([Value.slice SA (M.isort sxs).length scc, .int .i64 (st : Int), .int .i64 ((st : Int) + (pn : Int))] = (List.range 3).map (phcell ⟨SA, scc, M.isort sxs, st, st + pn⟩)) := Lib.hid (by
        rw [show (st : Int) + (pn : Int) = ((st + pn : Nat) : Int) by omega]; rfl)
      have hil := M.isort_len sxs
      rw [← hil] at ownS2
      clear hil a0 hpw bx ownS
      go_wp2_with (at_builtin; go_loud (
        refine wpList_push2 (w0 := w2) (cell := phcell) rfl _ _ 42 rfl w2.heap.size w2.heap.size 48 ip _ 40 Tryz.underlying42 Hip.out Hzp0.out Hzp1.out Hzp2.out rfl (by decide) _ ps.length ps ⟨SA, scc, M.isort sxs, st, st + pn⟩ rfl hpw7.outer _ _ HCS.out 1 rfl (ph_one _) (by unfold maxLen; have := HPSL.out; omega) (by have := HPSL.out; omega) B7.size (Nat.le_refl _) B7 ?_
        intro v8 w8 hown8 hb8 hg8 hl8))
      have hpw8 := hpw7.push ownS2 hown8 hg8
      have HPT8 : Hid (M.PhasesTo t (os.map (·.xs)) (k + 1) (ps ++ [⟨SA, scc, M.isort sxs, st, st + pn⟩])) := Lib.hid (by
        exact HPT.out.push (by rw [HPM.out]; exact hlt) (by rw [HAT.out]) HST.out.symm (by rw [HTS.out]))
      have HLN : Hid ((ps ++ [(⟨SA, scc, M.isort sxs, st, st + pn⟩ : PhS)]).length = k + 1) := Lib.hid (by rw [List.length_append, HPSL.out]; rfl)
      have HTS2 : Hid (((M.tmS t (os.map (·.xs)) (k + 1) : Nat) : Int) = (st : Int) + (pn : Int)) := Lib.hid (by rw [HTS.out]; omega)
      go_roundw
      case rel => exact ⟨k + 1, _, hlt, by go_num, by rw [HTS2.out], hb8, hpw8, HLN.out, HPT8⟩
      case measure => simp [intOf]; omega
    · obtain rfl : k = os.length := by omega
      have q0 : decide ((os.length : Int) < (os.length : Int)) = false := decide_eq_false (by omega)
      have hou := hpw.outer
      go_wp2_with fail
      go_ret2
      obtain ⟨A9, c9, hv9, hS9⟩ := own_slice (by decide) hou
      exact ⟨⟨0, HER.out, .inr ⟨rfl, .inr ⟨HPL.out, A9, c9, ps, congrArg (fun v => Ending.returned (.tuple #[v, .int .i64 0])) hv9, ⟨hS9, fun p hp => Sl.of_own (by decide) (hpw.inner p hp)⟩, HPT.out⟩⟩⟩, BW⟩
end Go.Proofs.YtpkepgcmifdpfaaGreatDoor
end
