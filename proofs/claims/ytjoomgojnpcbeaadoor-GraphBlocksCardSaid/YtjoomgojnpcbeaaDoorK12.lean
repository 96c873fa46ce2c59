/- A bundle of texts: LoO, GhB1, Re1, La1, Re2. -/
import Derived.Test.YtjoomgojnpcbeaaDoorK10
import Derived.Test.YtjoomgojnpcbeaaDoorK06
import Derived.Test.YtjoomgojnpcbeaaDoorK11
import Derived.Test.YtjoomgojnpcbeaaDoorK01
import Derived.Test.YtjoomgojnpcbeaaDoorK07
import Derived.Test.YtjoomgojnpcbeaaDoorK02
section
namespace Go.Proofs.YtjoomgojnpcbeaaDoor
open Go Go.RowKit
set_option maxRecDepth 100000
structure SLc where
  A : Option Addr
  c : Nat
  xs : List Int
def slcell (s : SLc) (_ : Nat) : Value := .slice s.A s.xs.length s.c
theorem sl_one (s : SLc) (j : Nat) : (slcell s j).oneCell' = true := rfl
structure LL (w : World) (A : Option Addr) (ls : List SLc) : Prop where
  outer : Sl 1 slcell w w.heap.size A ls
  inner : ∀ s ∈ ls, Sl 1 icell w w.heap.size s.A s.xs
theorem LL.next {w w' : World} {A : Option Addr} {ls : List SLc} (h : LL w A ls) (hb : Below w.heap.size w w') : LL w' A ls := ⟨(h.outer.below hb).more hb.size, fun s hs => ((h.inner s hs).below hb).more hb.size⟩
theorem own_ne {w : World} {b1 b2 : Nat} {e1 e2 : TypeId} {s1 s2 : Nat} {v1 v2 : Value} {n1 n2 : Nat} {x1 x2 : List Value} (h1 : w.ownsRow b1 e1 s1 v1 n1 x1) (h2 : w.ownsRow b2 e2 s2 v2 n2 x2) (hne : e1 ≠ e2) : v1.ownBlock = none ∨ v1.ownBlock ≠ v2.ownBlock := by
  rcases h1.2 with ⟨rfl, _⟩ | ⟨g, cap, cur, rfl, _, hg, _⟩
  · exact .inl rfl
  · rcases h2.2 with ⟨rfl, _⟩ | ⟨g2, cap2, cur2, rfl, _, hg2, _⟩
    · exact .inr (by simp [Value.ownBlock])
    · refine .inr (fun e => ?_)
      simp only [Value.ownBlock, Option.some.injEq] at e
      subst e
      rw [hg] at hg2
      cases hg2
      exact hne rfl
structure LO (W : World) (base : Nat) (v : Value) (ls : List SLc) : Prop where
  outer : W.ownsRow base 31 1 v ls.length (flat 1 slcell ls)
  inner : ∀ s ∈ ls, W.ownsRow base 3 1 (.slice s.A s.xs.length s.c) s.xs.length (flat 1 icell s.xs)
section
variable {W W' : World} {base : Nat} {v : Value} {ls : List SLc}
theorem LO.none_ (W : World) (base : Nat) : LO W base (.slice none 0 0) [] := ⟨own_nil _ _ _ _ _, fun s h => absurd h (by simp)⟩
theorem LO.below (h : LO W base v ls) (hb : Below W.heap.size W W') : LO W' base v ls := ⟨own_below h.outer hb, fun s hs => own_below (h.inner s hs) hb⟩
theorem LO.own {row : Option Nat} {B : Nat} (h : LO W base v ls) (hg : W.grownBy W' row) (hr : ∀ r, row = some r → B ≤ r ∧ ∃ o : Obj, W.heap[r]? = some o ∧ o.isCells = false) : LO W' base v ls :=
  ⟨row_own h.outer hg hr, fun s hs => row_own (h.inner s hs) hg hr⟩
theorem LO.far {b : Nat} (h : LO W base v ls) (hg : W.grownBy W' (some b)) (hb : b < base) : LO W' base v ls :=
  ⟨h.outer.kept hg (.inr (fun e => by have := (h.outer.lt _ e).1; omega)), fun s hs => (h.inner s hs).kept hg (.inr (fun e => by have := ((h.inner s hs).lt _ e).1; omega))⟩
theorem LO.off {b : Nat} (h : LO W base v ls) (hg : W.grownBy W' (some b)) (hv : v.ownBlock ≠ some b) (hi : ∀ s ∈ ls, (Value.slice s.A s.xs.length s.c).ownBlock ≠ some b) : LO W' base v ls :=
  ⟨h.outer.kept hg (.inr hv), fun s hs => (h.inner s hs).kept hg (.inr (hi s hs))⟩
theorem LO.push (h : LO W base v ls) {v' : Value} {s : SLc} (hi : W.ownsRow base 3 1 (.slice s.A s.xs.length s.c) s.xs.length (flat 1 icell s.xs)) (ho : W'.ownsRow base 31 1 v' (ls.length + 1) (flat 1 slcell (ls ++ [s]))) (hg : W.grownBy W' v.ownBlock) : LO W' base v' (ls ++ [s]) := by
  refine ⟨by rw [List.length_append]; exact ho, fun t ht => ?_⟩
  have hk : ∀ t : SLc, W.ownsRow base 3 1 (.slice t.A t.xs.length t.c) t.xs.length (flat 1 icell t.xs) → W'.ownsRow base 3 1 (.slice t.A t.xs.length t.c) t.xs.length (flat 1 icell t.xs) := fun t h1 => h1.kept hg (own_ne h1 h.outer (by decide))
  rcases List.mem_append.1 ht with ht | ht
  · exact hk t (h.inner t ht)
  · obtain rfl := List.mem_singleton.1 ht
    exact hk t hi
theorem LO.ll {A : Option Addr} {c : Nat} (h : LO W base (.slice A ls.length c) ls) : LL W A ls := by
  refine ⟨?_, fun s hs => Sl.of_own (by decide) (h.inner s hs)⟩
  exact Sl.of_own (by decide) h.outer
end
theorem slInfo : (Tryd.prog.info? 31).map (fun i => (i.zero, i.size, i.bytes)) = some (some (.slice none 0 0), 1, 24) := by kernel_rfl
theorem LL.lit {w : World} {b : Nat} {cs : Array Value} {t : TypeId} {ls : List SLc} (hb : Box w b cs t) (h : cs.toList = flat 1 slcell ls) (hi : ∀ s ∈ ls, Sl 1 icell w w.heap.size s.A s.xs) : LL w (some ⟨b, 0, none⟩) ls := ⟨Sl.of_box hb h, hi⟩
theorem Hold.ne_own0 {w : World} {D : Nat} {o : Obj} (h : Hold w D o) (ho : o.isCells = false) {base : Nat} {e : TypeId} {size g n c i : Nat} {xs : List Value} (hown : w.ownsRow base e size (.slice (some ⟨g, 0, none⟩) n c) n xs) : D ≠ (⟨g, i, none⟩ : Addr).block := fun e => by
  have := h.ne_own ho hown
  exact this (by rw [e]; rfl)
theorem Marks.set_own {w : World} {B C : Nat} {ds : List Deferred} (hM : Marks B C ds w) {base : Nat} {e : TypeId} {size g n c i : Nat} {xs : List Value} (hown : w.ownsRow base e size (.slice (some ⟨g, 0, none⟩) n c) n xs) (v : Value) : Marks B C ds (w.setCell ⟨g, i, none⟩ v) := by
  obtain ⟨Ds, e, hn, hh⟩ := hM
  exact ⟨Ds, e, hn, fun D hD => ⟨(hh D hD).1, (hh D hD).2.1, (hh D hD).2.2.set_other ((hh D hD).2.2.ne_own0 rfl hown) v⟩⟩
theorem intInfoD : (Tryd.prog.info? 3).map (fun i => (i.zero, i.size, i.bytes)) = some (some (.int .i64 0), 1, 8) := by kernel_rfl
theorem grown8 {w Y : World} {b m : Nat}
    (hY : ((((((((w.setCell ⟨b, 0, none⟩ (.int .u64 (Bs.wd m 0 : Nat))).setCell ⟨b, 1, none⟩ (.int .u64 (Bs.wd m 1 : Nat))).setCell ⟨b, 2, none⟩ (.int .u64 (Bs.wd m 2 : Nat))).setCell ⟨b, 3, none⟩ (.int .u64 (Bs.wd m 3 : Nat))).setCell ⟨b, 4, none⟩ (.int .u64 (Bs.wd m 4 : Nat))).setCell ⟨b, 5, none⟩ (.int .u64 (Bs.wd m 5 : Nat))).setCell ⟨b, 6, none⟩ (.int .u64 (Bs.wd m 6 : Nat))).setCell ⟨b, 7, none⟩ (.int .u64 (Bs.wd m 7 : Nat)) = Y)) : w.grownBy Y (some b) := by
  rw [← hY]
  exact (((((((grown_set w b 0 _).trans (grown_set _ b 1 _)).trans (grown_set _ b 2 _)).trans (grown_set _ b 3 _)).trans (grown_set _ b 4 _)).trans (grown_set _ b 5 _)).trans (grown_set _ b 6 _)).trans (grown_set _ b 7 _)
theorem Marks.set8 {w : World} {b n B C : Nat} {cs : Array Value} {t : TypeId} {ds : List Deferred} (hM : Marks B C ds w) (hb : Box w b cs t) {Y : World}
    (hY : ((((((((w.setCell ⟨b, 0, none⟩ (.int .u64 (Bs.wd n 0 : Nat))).setCell ⟨b, 1, none⟩ (.int .u64 (Bs.wd n 1 : Nat))).setCell ⟨b, 2, none⟩ (.int .u64 (Bs.wd n 2 : Nat))).setCell ⟨b, 3, none⟩ (.int .u64 (Bs.wd n 3 : Nat))).setCell ⟨b, 4, none⟩ (.int .u64 (Bs.wd n 4 : Nat))).setCell ⟨b, 5, none⟩ (.int .u64 (Bs.wd n 5 : Nat))).setCell ⟨b, 6, none⟩ (.int .u64 (Bs.wd n 6 : Nat))).setCell ⟨b, 7, none⟩ (.int .u64 (Bs.wd n 7 : Nat)) = Y)) : Marks B C ds Y := by
  obtain ⟨Ds, e, hn, hh⟩ := hM
  refine ⟨Ds, e, hn, fun D hD => ⟨(hh D hD).1, (hh D hD).2.1, ?_⟩⟩
  have hne := (hh D hD).2.2.ne_box rfl hb
  rw [← hY]
  exact (((((((((hh D hD).2.2.set_other (p := ⟨b, 0, none⟩) hne _).set_other (p := ⟨b, 1, none⟩) hne _).set_other (p := ⟨b, 2, none⟩) hne _).set_other (p := ⟨b, 3, none⟩) hne _).set_other (p := ⟨b, 4, none⟩) hne _).set_other (p := ⟨b, 5, none⟩) hne _).set_other (p := ⟨b, 6, none⟩) hne _).set_other (p := ⟨b, 7, none⟩) hne _)
theorem Hold.set8 {w : World} {b n D : Nat} {o : Obj} {cs : Array Value} {t : TypeId} (hD : Hold w D o) (ho : o.isCells = false) (hb : Box w b cs t) {Y : World}
    (hY : ((((((((w.setCell ⟨b, 0, none⟩ (.int .u64 (Bs.wd n 0 : Nat))).setCell ⟨b, 1, none⟩ (.int .u64 (Bs.wd n 1 : Nat))).setCell ⟨b, 2, none⟩ (.int .u64 (Bs.wd n 2 : Nat))).setCell ⟨b, 3, none⟩ (.int .u64 (Bs.wd n 3 : Nat))).setCell ⟨b, 4, none⟩ (.int .u64 (Bs.wd n 4 : Nat))).setCell ⟨b, 5, none⟩ (.int .u64 (Bs.wd n 5 : Nat))).setCell ⟨b, 6, none⟩ (.int .u64 (Bs.wd n 6 : Nat))).setCell ⟨b, 7, none⟩ (.int .u64 (Bs.wd n 7 : Nat)) = Y)) : Hold Y D o := by
  have hne := hD.ne_box ho hb
  rw [← hY]
  exact ((((((((hD.set_other (p := ⟨b, 0, none⟩) hne _).set_other (p := ⟨b, 1, none⟩) hne _).set_other (p := ⟨b, 2, none⟩) hne _).set_other (p := ⟨b, 3, none⟩) hne _).set_other (p := ⟨b, 4, none⟩) hne _).set_other (p := ⟨b, 5, none⟩) hne _).set_other (p := ⟨b, 6, none⟩) hne _).set_other (p := ⟨b, 7, none⟩) hne _)
theorem LO.low {W : World} {base base' : Nat} {v : Value} {ls : List SLc} (h : LO W base v ls) (hb : base' ≤ base) : LO W base' v ls := ⟨own_base h.outer hb, fun s hs => own_base (h.inner s hs) hb⟩
theorem SameC.lo {B : Nat} {W W' : World} (h : SameC B W W') {base : Nat} {v : Value} {ls : List SLc} (hl : LO W base v ls) : LO W' base v ls := ⟨h.own hl.outer, fun s hs => h.own (hl.inner s hs)⟩
theorem wpList_push_at {α : Type} {P : Program} {size : Nat} {cell : α → Nat → Value} {w : World} {ops : Array Oper} {rest : List Oper} {o : Oper} {a : Act} {Q : Exit → Act → World → Prop} (hgd : o.guard = none) (s x : Operand) (t : TypeId)
    (ho : o.op = .call { callee := .builtin .append, args := #[s, x], argTypes := #[t, t] })
    (base : Nat) (e : TypeId) (i : TypeInfo) (z : Value) (bytes : Nat) (ht : P.underlying t = some (.slice e)) (hi : P.info? e = some i) (hz : i.zero = some z)
    (hsize : i.size = size) (hby : i.bytes = bytes) (hzs : z.cells.size = size) (hsz : 0 < size)
    (v : Value) (n : Nat) (xs : List α) (y : α) (hs : a.eval s = v) (hown : w.ownsRow base e size v n (flat size cell xs))
    (cs : Array Value) (te : TypeId) (hcs : cs.toList = (List.range size).map (cell y)) (c : Nat) (hx : a.eval x = .slice (some ⟨w.heap.size, 0, none⟩) 1 c) (h1 : ∀ j, (cell y j).oneCell' = true)
    (h63 : n + 1 ≤ maxLen) (hbytes : (n + 1) * bytes ≤ 140737488355328) (hbase : base ≤ w.heap.size)
    (h : ∀ v' w', w'.ownsRow base e size v' (n + 1) (flat size cell (xs ++ [y])) → w.grownBy w' v.ownBlock → (v'.ownBlock = v.ownBlock ∨ ∀ k, v'.ownBlock = some k → w.heap.size ≤ k) → wpList P ops Q rest (a.put o.dst v') w') : wpList P ops Q (o :: rest) a (w.alloc (.cells cs te)) := by
  refine wpList_append_own_at (P := P) (w := w.alloc (.cells cs te)) hgd s x t ho base e i z size bytes ht hi hz hsize hby hzs hsz v n (flat size cell xs) hs (hown.alloc _) ⟨w.heap.size, 0, none⟩ 1 c cs.toList hx (by rw [hcs]; simp) ?_ ?_ h63 hbytes (by simp; omega) ?_
  · intro j u hj
    have hb : (w.alloc (.cells cs te)).heap[w.heap.size]? = some (.cells cs te (0, 0)) := heap_alloc_new w _
    have e1 : (⟨w.heap.size, 0, none⟩ : Addr).add j = ⟨w.heap.size, j, none⟩ := by unfold Addr.add; split <;> simp_all
    rw [e1, cell_of_row _ _ _ _ _ _ hb]
    simpa using hj
  · intro u hu
    rw [hcs] at hu
    obtain ⟨j, _, rfl⟩ := List.mem_map.1 hu
    exact h1 j
  · intro v' w' ho' hg _ hat
    refine h v' w' (by rw [flat_append, flat_one, ← hcs]; exact ho') (grown_alloc hg) ?_
    rcases hat with e | e
    · exact .inl e
    · refine .inr fun k hk => ?_
      rw [e] at hk
      have := Option.some.inj hk
      simp at this
      omega
end Go.Proofs.YtjoomgojnpcbeaaDoor
end

section
namespace Go.Proofs.YtjoomgojnpcbeaaDoor
open Go Go.RowKit Gh
set_option maxRecDepth 100000
structure BA where
  h : Nat
  b1 : Nat
  bT : Nat
  gE : Nat
  bE : Nat
  gL : Nat
  bL : Nat
  gS : Nat
  bS : Nat
  bK : Nat
  bB : Nat
  bV : Nat
structure BA.Ok (a : BA) : Prop where
  o0 : a.h ≤ a.b1
  o1 : a.b1 < a.bT
  o2 : a.bT < a.gE
  o3 : a.gE < a.bE
  o4 : a.bE < a.gL
  o5 : a.gL < a.bL
  o6 : a.bL < a.gS
  o7 : a.gS < a.bS
  o8 : a.bS < a.bK
  o9 : a.bK < a.bB
  o10 : a.bB < a.bV
theorem BA.Ok.all {a : BA} (o : a.Ok) : a.h ≤ a.b1 ∧ a.b1 < a.bT ∧ a.bT < a.gE ∧ a.gE < a.bE ∧ a.bE < a.gL ∧ a.gL < a.bL ∧ a.bL < a.gS ∧ a.gS < a.bS ∧ a.bS < a.bK ∧ a.bK < a.bB ∧ a.bB < a.bV := ⟨o.o0, o.o1, o.o2, o.o3, o.o4, o.o5, o.o6, o.o7, o.o8, o.o9, o.o10⟩
abbrev ptr (b : Nat) : Value := .pointer (some ⟨b, 0, none⟩)
abbrev caps (a : BA) : Array Value := #[ptr a.bK, ptr a.bT, ptr a.bE, ptr a.bL, ptr a.b1, ptr a.bV, ptr a.bS, ptr a.bB]
abbrev slv (g n : Nat) : Value := .slice (some ⟨g, 0, none⟩) n n
def nfl (n : Nat) (f : Nat → Nat) : List Int := Dg.fl n fun j => (f j : Int)
theorem nfl_len (n : Nat) (f : Nat → Nat) : (nfl n f).length = n := Dg.fl_len _ _
theorem nfl_at {n : Nat} {f : Nat → Nat} {k : Nat} (hk : k < (nfl n f).length) : (nfl n f)[k] = f k := Dg.fl_at hk
theorem nfl_set {n : Nat} (f : Nat → Nat) (k x : Nat) : (nfl n f).set k (x : Int) = nfl n (upd f k x) := by
  unfold nfl
  rw [Dg.fl_set]
  congr 1
  funext j
  unfold upd
  split <;> rfl
theorem nfl_congr {n : Nat} {f g : Nat → Nat} (h : ∀ k, k < n → f k = g k) : nfl n f = nfl n g := Dg.fl_congr fun k hk => by rw [h k hk]
structure BSh (w0 W : World) (a : BA) (pv : Value) (n : Nat) (s : Bk) (vX vK vB vY : Value) (ls : List SLc) : Prop where
  bel : Below a.h w0 W
  x1 : Box W a.b1 #[pv] 24
  xT : Box W a.bT #[.int .i64 s.time] 3
  xE : Box W a.bE #[slv a.gE n] 31
  xL : Box W a.bL #[slv a.gL n] 31
  xS : Box W a.bS #[slv a.gS n] 31
  xK : Box W a.bK #[vX] 31
  xB : Box W a.bB #[vY] 28
  xV : Box W a.bV #[.func (.func 46) #[] (caps a)] 80
  oE : W.ownsRow a.h 3 1 (slv a.gE n) n (flat 1 icell (nfl n s.ent))
  oL : W.ownsRow a.h 3 1 (slv a.gL n) n (flat 1 icell (nfl n s.low))
  oS : W.ownsRow a.h 3 1 (slv a.gS n) n (flat 1 icell (nfl n s.sh))
  oK : W.ownsRow (a.bV + 1) 3 1 vK s.stack.length (flat 1 icell (bsl s.stack))
  lo : LO W (a.bV + 1) vB ls
  lsx : ls.map (·.xs) = s.blocks.map bsl
  off : ∀ t ∈ ls, (Value.slice t.A t.xs.length t.c).ownBlock = none ∨ (Value.slice t.A t.xs.length t.c).ownBlock ≠ vK.ownBlock
abbrev BSt (w0 W : World) (a : BA) (pv : Value) (n : Nat) (s : Bk) (vK vB : Value) (ls : List SLc) : Prop := BSh w0 W a pv n s vK vK vB vB ls
section
variable {w0 W W' : World} {a : BA} {pv : Value} {n : Nat} {s : Bk} {vX vK vB vY : Value} {ls : List SLc}
theorem BSh.lt (h : BSh w0 W a pv n s vX vK vB vY ls) : a.bV < W.heap.size := h.xV.lt
theorem BSh.next (h : BSh w0 W a pv n s vX vK vB vY ls) (o : a.Ok) (hb : Below W.heap.size W W') : BSh w0 W' a pv n s vX vK vB vY ls := by
  obtain ⟨o0, o1, o2, o3, o4, o5, o6, o7, o8, o9, o10⟩ := o
  have hl := h.lt
  exact { bel := h.bel.trans (hb.mono (by omega)), x1 := h.x1.below hb, xT := h.xT.below hb, xE := h.xE.below hb, xL := h.xL.below hb, xS := h.xS.below hb, xK := h.xK.below hb, xB := h.xB.below hb, xV := h.xV.below hb, oE := own_below h.oE hb, oL := own_below h.oL hb, oS := own_below h.oS hb, oK := own_below h.oK hb, lo := h.lo.below hb, lsx := h.lsx, off := h.off }
theorem BSh.own {row : Option Nat} {B : Nat} (h : BSh w0 W a pv n s vX vK vB vY ls) (hB : a.h ≤ B) (o : a.Ok) (hg : W.grownBy W' row) (hr : ∀ r, row = some r → B ≤ r ∧ ∃ o : Obj, W.heap[r]? = some o ∧ o.isCells = false) : BSh w0 W' a pv n s vX vK vB vY ls := by
  obtain ⟨o0, o1, o2, o3, o4, o5, o6, o7, o8, o9, o10⟩ := o
  have hl := h.lt
  exact { bel := below_own h.bel hB (by omega) hg hr, x1 := h.x1.own hg hr, xT := h.xT.own hg hr, xE := h.xE.own hg hr, xL := h.xL.own hg hr, xS := h.xS.own hg hr, xK := h.xK.own hg hr, xB := h.xB.own hg hr, xV := h.xV.own hg hr, oE := row_own h.oE hg hr, oL := row_own h.oL hg hr, oS := row_own h.oS hg hr, oK := row_own h.oK hg hr, lo := h.lo.own hg hr, lsx := h.lsx, off := h.off }
theorem num_at {base g : Nat} {f : Nat → Nat} (h : W.ownsRow base 3 1 (slv g n) n (flat 1 icell (nfl n f))) {x : Nat} (hx : x < n) : W.cell? ⟨g, x, none⟩ = some (.int .i64 (f x)) ∧ W.frozen? ⟨g, x, none⟩ = false := by
  have := own_at h (k := x) (j := 0) (by rw [nfl_len]; exact hx) (by decide)
  rw [Nat.mul_one, Nat.add_zero] at this
  refine ⟨this.1.trans ?_, this.2⟩
  rw [nfl_at]
  rfl
theorem num_set {base g : Nat} {f : Nat → Nat} (h : W.ownsRow base 3 1 (slv g n) n (flat 1 icell (nfl n f))) {x : Nat} (hx : x < n) (y : Nat) : (W.setCell ⟨g, x, none⟩ (.int .i64 y)).ownsRow base 3 1 (slv g n) n (flat 1 icell (nfl n (upd f x y))) := by
  have h3 := own_set (size := 1) (cell := icell) h (k := x) (by rw [nfl_len]; exact hx) (j := 0) (y := (y : Int)) (u := .int .i64 y) (by decide) rfl (fun j' h1 h2 => absurd h1 (by omega))
  rw [Nat.mul_one, Nat.add_zero, nfl_set] at h3
  exact h3
theorem BSh.setE (h : BSh w0 W a pv n s vX vK vB vY ls) (o : a.Ok) {v : Nat} (hv : v < n) (x : Nat) : BSh w0 (W.setCell ⟨a.gE, v, none⟩ (.int .i64 x)) a pv n { s with ent := upd s.ent v x } vX vK vB vY ls := by
  obtain ⟨o0, o1, o2, o3, o4, o5, o6, o7, o8, o9, o10⟩ := o
  have hl := h.lt
  have hg := grown_set W a.gE v (.int .i64 x)
  exact { bel := h.bel.grown hg (by have := h.lt; omega) (fun k e => by have := Option.some.inj e; omega), x1 := h.x1.grown hg (fun e => by have e2 : a.b1 = a.gE := Option.some.inj e; omega), xT := h.xT.grown hg (fun e => by have e2 : a.bT = a.gE := Option.some.inj e; omega), xE := h.xE.grown hg (fun e => by have e2 : a.bE = a.gE := Option.some.inj e; omega), xL := h.xL.grown hg (fun e => by have e2 : a.bL = a.gE := Option.some.inj e; omega), xS := h.xS.grown hg (fun e => by have e2 : a.bS = a.gE := Option.some.inj e; omega), xK := h.xK.grown hg (fun e => by have e2 : a.bK = a.gE := Option.some.inj e; omega), xB := h.xB.grown hg (fun e => by have e2 : a.bB = a.gE := Option.some.inj e; omega), xV := h.xV.grown hg (fun e => by have e2 : a.bV = a.gE := Option.some.inj e; omega), oE := num_set h.oE hv x, oL := h.oL.kept hg (.inr (fun e => by have e2 : a.gL = a.gE := Option.some.inj e; omega)), oS := h.oS.kept hg (.inr (fun e => by have e2 : a.gS = a.gE := Option.some.inj e; omega)), oK := h.oK.kept hg (.inr (fun e => by have := (h.oK.lt _ e).1; omega)), lo := h.lo.far hg (by omega), lsx := h.lsx, off := h.off }
theorem BSh.setL (h : BSh w0 W a pv n s vX vK vB vY ls) (o : a.Ok) {v : Nat} (hv : v < n) (x : Nat) : BSh w0 (W.setCell ⟨a.gL, v, none⟩ (.int .i64 x)) a pv n { s with low := upd s.low v x } vX vK vB vY ls := by
  obtain ⟨o0, o1, o2, o3, o4, o5, o6, o7, o8, o9, o10⟩ := o
  have hl := h.lt
  have hg := grown_set W a.gL v (.int .i64 x)
  exact { bel := h.bel.grown hg (by have := h.lt; omega) (fun k e => by have := Option.some.inj e; omega), x1 := h.x1.grown hg (fun e => by have e2 : a.b1 = a.gL := Option.some.inj e; omega), xT := h.xT.grown hg (fun e => by have e2 : a.bT = a.gL := Option.some.inj e; omega), xE := h.xE.grown hg (fun e => by have e2 : a.bE = a.gL := Option.some.inj e; omega), xL := h.xL.grown hg (fun e => by have e2 : a.bL = a.gL := Option.some.inj e; omega), xS := h.xS.grown hg (fun e => by have e2 : a.bS = a.gL := Option.some.inj e; omega), xK := h.xK.grown hg (fun e => by have e2 : a.bK = a.gL := Option.some.inj e; omega), xB := h.xB.grown hg (fun e => by have e2 : a.bB = a.gL := Option.some.inj e; omega), xV := h.xV.grown hg (fun e => by have e2 : a.bV = a.gL := Option.some.inj e; omega), oE := h.oE.kept hg (.inr (fun e => by have e2 : a.gE = a.gL := Option.some.inj e; omega)), oL := num_set h.oL hv x, oS := h.oS.kept hg (.inr (fun e => by have e2 : a.gS = a.gL := Option.some.inj e; omega)), oK := h.oK.kept hg (.inr (fun e => by have := (h.oK.lt _ e).1; omega)), lo := h.lo.far hg (by omega), lsx := h.lsx, off := h.off }
theorem BSh.setS (h : BSh w0 W a pv n s vX vK vB vY ls) (o : a.Ok) {v : Nat} (hv : v < n) (x : Nat) : BSh w0 (W.setCell ⟨a.gS, v, none⟩ (.int .i64 x)) a pv n { s with sh := upd s.sh v x } vX vK vB vY ls := by
  obtain ⟨o0, o1, o2, o3, o4, o5, o6, o7, o8, o9, o10⟩ := o
  have hl := h.lt
  have hg := grown_set W a.gS v (.int .i64 x)
  exact { bel := h.bel.grown hg (by have := h.lt; omega) (fun k e => by have := Option.some.inj e; omega), x1 := h.x1.grown hg (fun e => by have e2 : a.b1 = a.gS := Option.some.inj e; omega), xT := h.xT.grown hg (fun e => by have e2 : a.bT = a.gS := Option.some.inj e; omega), xE := h.xE.grown hg (fun e => by have e2 : a.bE = a.gS := Option.some.inj e; omega), xL := h.xL.grown hg (fun e => by have e2 : a.bL = a.gS := Option.some.inj e; omega), xS := h.xS.grown hg (fun e => by have e2 : a.bS = a.gS := Option.some.inj e; omega), xK := h.xK.grown hg (fun e => by have e2 : a.bK = a.gS := Option.some.inj e; omega), xB := h.xB.grown hg (fun e => by have e2 : a.bB = a.gS := Option.some.inj e; omega), xV := h.xV.grown hg (fun e => by have e2 : a.bV = a.gS := Option.some.inj e; omega), oE := h.oE.kept hg (.inr (fun e => by have e2 : a.gE = a.gS := Option.some.inj e; omega)), oL := h.oL.kept hg (.inr (fun e => by have e2 : a.gL = a.gS := Option.some.inj e; omega)), oS := num_set h.oS hv x, oK := h.oK.kept hg (.inr (fun e => by have := (h.oK.lt _ e).1; omega)), lo := h.lo.far hg (by omega), lsx := h.lsx, off := h.off }
theorem BSh.setT (h : BSh w0 W a pv n s vX vK vB vY ls) (o : a.Ok) (x : Nat) : BSh w0 (W.setCell ⟨a.bT, 0, none⟩ (.int .i64 x)) a pv n { s with time := x } vX vK vB vY ls := by
  obtain ⟨o0, o1, o2, o3, o4, o5, o6, o7, o8, o9, o10⟩ := o
  have hl := h.lt
  have hg := grown_set W a.bT 0 (.int .i64 x)
  exact { bel := h.bel.grown hg (by have := h.lt; omega) (fun k e => by have := Option.some.inj e; omega), x1 := h.x1.grown hg (fun e => by have e2 : a.b1 = a.bT := Option.some.inj e; omega), xT := h.xT.set 0 _, xE := h.xE.grown hg (fun e => by have e2 : a.bE = a.bT := Option.some.inj e; omega), xL := h.xL.grown hg (fun e => by have e2 : a.bL = a.bT := Option.some.inj e; omega), xS := h.xS.grown hg (fun e => by have e2 : a.bS = a.bT := Option.some.inj e; omega), xK := h.xK.grown hg (fun e => by have e2 : a.bK = a.bT := Option.some.inj e; omega), xB := h.xB.grown hg (fun e => by have e2 : a.bB = a.bT := Option.some.inj e; omega), xV := h.xV.grown hg (fun e => by have e2 : a.bV = a.bT := Option.some.inj e; omega), oE := h.oE.kept hg (.inr (fun e => by have e2 : a.gE = a.bT := Option.some.inj e; omega)), oL := h.oL.kept hg (.inr (fun e => by have e2 : a.gL = a.bT := Option.some.inj e; omega)), oS := h.oS.kept hg (.inr (fun e => by have e2 : a.gS = a.bT := Option.some.inj e; omega)), oK := h.oK.kept hg (.inr (fun e => by have := (h.oK.lt _ e).1; omega)), lo := h.lo.far hg (by omega), lsx := h.lsx, off := h.off }
theorem BSh.off_ {b : Nat} (h : BSh w0 W a pv n s vX vK vB vY ls) (o : a.Ok) (hg : W.grownBy W' (some b)) (hb : a.bV < b) (hK : vK.ownBlock ≠ some b) (hB : vB.ownBlock ≠ some b) (hi : ∀ t ∈ ls, (Value.slice t.A t.xs.length t.c).ownBlock ≠ some b) : BSh w0 W' a pv n s vX vK vB vY ls := by
  obtain ⟨o0, o1, o2, o3, o4, o5, o6, o7, o8, o9, o10⟩ := o
  have hl := h.lt
  exact { bel := h.bel.grown hg (by have := h.lt; omega) (fun k e => by have := Option.some.inj e; omega), x1 := h.x1.grown hg (fun e => by have e2 : a.b1 = b := Option.some.inj e; omega), xT := h.xT.grown hg (fun e => by have e2 : a.bT = b := Option.some.inj e; omega), xE := h.xE.grown hg (fun e => by have e2 : a.bE = b := Option.some.inj e; omega), xL := h.xL.grown hg (fun e => by have e2 : a.bL = b := Option.some.inj e; omega), xS := h.xS.grown hg (fun e => by have e2 : a.bS = b := Option.some.inj e; omega), xK := h.xK.grown hg (fun e => by have e2 : a.bK = b := Option.some.inj e; omega), xB := h.xB.grown hg (fun e => by have e2 : a.bB = b := Option.some.inj e; omega), xV := h.xV.grown hg (fun e => by have e2 : a.bV = b := Option.some.inj e; omega), oE := h.oE.kept hg (.inr (fun e => by have e2 : a.gE = b := Option.some.inj e; omega)), oL := h.oL.kept hg (.inr (fun e => by have e2 : a.gL = b := Option.some.inj e; omega)), oS := h.oS.kept hg (.inr (fun e => by have e2 : a.gS = b := Option.some.inj e; omega)), oK := h.oK.kept hg (.inr hK), lo := h.lo.off hg hB hi, lsx := h.lsx, off := h.off }
theorem BSh.off_g {row : Option Nat} (h : BSh w0 W a pv n s vX vK vB vY ls) (o : a.Ok) (hg : W.grownBy W' row) (hb : ∀ b, row = some b → a.bV < b) (hn : ∀ b, row = some b → vK.ownBlock ≠ some b ∧ vB.ownBlock ≠ some b ∧ ∀ t ∈ ls, (Value.slice t.A t.xs.length t.c).ownBlock ≠ some b) : BSh w0 W' a pv n s vX vK vB vY ls := by
  cases row with
  | none => exact h.next o ⟨hg.os, hg.tape, hg.output, hg.size, fun k hk => hg.block k hk (by simp)⟩
  | some b => exact h.off_ o hg (hb b rfl) (hn b rfl).1 (hn b rfl).2.1 (hn b rfl).2.2
theorem BSh.stk {st : List Nat} {v' : Value} (h : BSh w0 W a pv n s vX vK vB vY ls) (o : a.Ok) (ho : W'.ownsRow (a.bV + 1) 3 1 v' st.length (flat 1 icell (bsl st))) (hg : W.grownBy W' vK.ownBlock) (hat : v'.ownBlock = vK.ownBlock ∨ ∀ k, v'.ownBlock = some k → W.heap.size ≤ k) : BSh w0 (W'.setCell ⟨a.bK, 0, none⟩ v') a pv n { s with stack := st } v' v' vB vY ls := by
  obtain ⟨o0, o1, o2, o3, o4, o5, o6, o7, o8, o9, o10⟩ := o
  have hl := h.lt
  have hne : ∀ b, b ≤ a.bV → some b ≠ vK.ownBlock := fun b hb e => by have := (h.oK.lt b e.symm).1; omega
  have hs : BSh w0 W' a pv n { s with stack := st } vX v' vB vY ls := by
    refine { bel := h.bel.grown hg (by omega) (fun k e => by have := (h.oK.lt k e).1; omega), x1 := h.x1.grown hg (hne _ (by omega)), xT := h.xT.grown hg (hne _ (by omega)), xE := h.xE.grown hg (hne _ (by omega)), xL := h.xL.grown hg (hne _ (by omega)), xS := h.xS.grown hg (hne _ (by omega)), xK := h.xK.grown hg (hne _ (by omega)), xB := h.xB.grown hg (hne _ (by omega)), xV := h.xV.grown hg (hne _ (by omega)), oE := h.oE.kept hg (.inr (hne a.gE (by omega))), oL := h.oL.kept hg (.inr (hne a.gL (by omega))), oS := h.oS.kept hg (.inr (hne a.gS (by omega))), oK := ho, lo := ⟨h.lo.outer.kept hg (own_ne h.lo.outer h.oK (by decide)), fun t ht => (h.lo.inner t ht).kept hg (h.off t ht)⟩, lsx := h.lsx, off := fun t ht => ?_ }
    · rcases h.off t ht with h1 | h1
      · exact .inl h1
      · rcases hat with h2 | h2
        · exact .inr (by rw [h2]; exact h1)
        · cases e : (Value.slice t.A t.xs.length t.c).ownBlock with
          | none => exact .inl rfl
          | some k => exact .inr (fun e2 => by have := h2 k e2.symm; have := ((h.lo.inner t ht).lt k e).2; omega)
  have hg2 := grown_set W' a.bK 0 v'
  exact { bel := hs.bel.grown hg2 (by have := hs.lt; omega) (fun k e => by have := Option.some.inj e; omega), x1 := hs.x1.grown hg2 (fun e => by have e2 : a.b1 = a.bK := Option.some.inj e; omega), xT := hs.xT.grown hg2 (fun e => by have e2 : a.bT = a.bK := Option.some.inj e; omega), xE := hs.xE.grown hg2 (fun e => by have e2 : a.bE = a.bK := Option.some.inj e; omega), xL := hs.xL.grown hg2 (fun e => by have e2 : a.bL = a.bK := Option.some.inj e; omega), xS := hs.xS.grown hg2 (fun e => by have e2 : a.bS = a.bK := Option.some.inj e; omega), xK := hs.xK.set 0 _, xB := hs.xB.grown hg2 (fun e => by have e2 : a.bB = a.bK := Option.some.inj e; omega), xV := hs.xV.grown hg2 (fun e => by have e2 : a.bV = a.bK := Option.some.inj e; omega), oE := hs.oE.kept hg2 (.inr (fun e => by have e2 : a.gE = a.bK := Option.some.inj e; omega)), oL := hs.oL.kept hg2 (.inr (fun e => by have e2 : a.gL = a.bK := Option.some.inj e; omega)), oS := hs.oS.kept hg2 (.inr (fun e => by have e2 : a.gS = a.bK := Option.some.inj e; omega)), oK := hs.oK.kept hg2 (.inr (fun e => by have := (hs.oK.lt _ e).1; omega)), lo := hs.lo.far hg2 (by omega), lsx := hs.lsx, off := hs.off }
theorem BSh.blk {L : List (List Nat)} {ls' : List SLc} {v' : Value} (h : BSh w0 W a pv n s vX vK vB vY ls) (o : a.Ok) (ho : LO W' (a.bV + 1) v' ls') (hL : ls'.map (·.xs) = L.map bsl) (hoff : ∀ t ∈ ls', (Value.slice t.A t.xs.length t.c).ownBlock = none ∨ (Value.slice t.A t.xs.length t.c).ownBlock ≠ vK.ownBlock) (hg : W.grownBy W' vB.ownBlock) : BSh w0 (W'.setCell ⟨a.bB, 0, none⟩ v') a pv n { s with blocks := L } vX vK v' v' ls' := by
  obtain ⟨o0, o1, o2, o3, o4, o5, o6, o7, o8, o9, o10⟩ := o
  have hl := h.lt
  have hne : ∀ b, b ≤ a.bV → some b ≠ vB.ownBlock := fun b hb e => by have := (h.lo.outer.lt b e.symm).1; omega
  have hs : BSh w0 W' a pv n { s with blocks := L } vX vK v' vY ls' :=
    { bel := h.bel.grown hg (by omega) (fun k e => by have := (h.lo.outer.lt k e).1; omega), x1 := h.x1.grown hg (hne _ (by omega)), xT := h.xT.grown hg (hne _ (by omega)), xE := h.xE.grown hg (hne _ (by omega)), xL := h.xL.grown hg (hne _ (by omega)), xS := h.xS.grown hg (hne _ (by omega)), xK := h.xK.grown hg (hne _ (by omega)), xB := h.xB.grown hg (hne _ (by omega)), xV := h.xV.grown hg (hne _ (by omega)), oE := h.oE.kept hg (.inr (hne a.gE (by omega))), oL := h.oL.kept hg (.inr (hne a.gL (by omega))), oS := h.oS.kept hg (.inr (hne a.gS (by omega))), oK := h.oK.kept hg (own_ne h.oK h.lo.outer (by decide)), lo := ho, lsx := hL, off := hoff }
  have hg2 := grown_set W' a.bB 0 v'
  exact { bel := hs.bel.grown hg2 (by have := hs.lt; omega) (fun k e => by have := Option.some.inj e; omega), x1 := hs.x1.grown hg2 (fun e => by have e2 : a.b1 = a.bB := Option.some.inj e; omega), xT := hs.xT.grown hg2 (fun e => by have e2 : a.bT = a.bB := Option.some.inj e; omega), xE := hs.xE.grown hg2 (fun e => by have e2 : a.bE = a.bB := Option.some.inj e; omega), xL := hs.xL.grown hg2 (fun e => by have e2 : a.bL = a.bB := Option.some.inj e; omega), xS := hs.xS.grown hg2 (fun e => by have e2 : a.bS = a.bB := Option.some.inj e; omega), xK := hs.xK.grown hg2 (fun e => by have e2 : a.bK = a.bB := Option.some.inj e; omega), xB := hs.xB.set 0 _, xV := hs.xV.grown hg2 (fun e => by have e2 : a.bV = a.bB := Option.some.inj e; omega), oE := hs.oE.kept hg2 (.inr (fun e => by have e2 : a.gE = a.bB := Option.some.inj e; omega)), oL := hs.oL.kept hg2 (.inr (fun e => by have e2 : a.gL = a.bB := Option.some.inj e; omega)), oS := hs.oS.kept hg2 (.inr (fun e => by have e2 : a.gS = a.bB := Option.some.inj e; omega)), oK := hs.oK.kept hg2 (.inr (fun e => by have := (hs.oK.lt _ e).1; omega)), lo := hs.lo.far hg2 (by omega), lsx := hs.lsx, off := hs.off }
structure Fr (a : BA) (W W' : World) (vK vB vK' vB' : Value) : Prop where
  os : W'.os = W.os
  tape : W'.tape = W.tape
  output : W'.output = W.output
  size : W.heap.size ≤ W'.heap.size
  block : ∀ k, k < W.heap.size → k ≠ a.bT → k ≠ a.gE → k ≠ a.gL → k ≠ a.gS → k ≠ a.bK → k ≠ a.bB → some k ≠ vK.ownBlock → some k ≠ vB.ownBlock → W'.heap[k]? = W.heap[k]?
  k : vK'.ownBlock = vK.ownBlock ∨ ∀ k, vK'.ownBlock = some k → W.heap.size ≤ k
  b : vB'.ownBlock = vB.ownBlock ∨ ∀ k, vB'.ownBlock = some k → W.heap.size ≤ k
variable {vK' vB' vK2 vB2 : Value} {W2 : World}
theorem Fr.refl_ (a : BA) (W : World) (vK vB : Value) : Fr a W W vK vB vK vB := ⟨rfl, rfl, rfl, Nat.le_refl _, fun _ _ _ _ _ _ _ _ _ _ => rfl, .inl rfl, .inl rfl⟩
theorem Fr.trans (h : Fr a W W' vK vB vK' vB') (h2 : Fr a W' W2 vK' vB' vK2 vB2) : Fr a W W2 vK vB vK2 vB2 where
  os := h2.os.trans h.os
  tape := h2.tape.trans h.tape
  output := h2.output.trans h.output
  size := Nat.le_trans h.size h2.size
  block := fun k hk h1 h3 h4 h5 h6 h7 h8 h9 => by
    refine (h2.block k (Nat.lt_of_lt_of_le hk h.size) h1 h3 h4 h5 h6 h7 ?_ ?_).trans (h.block k hk h1 h3 h4 h5 h6 h7 h8 h9)
    · rcases h.k with e | e
      · rw [e]; exact h8
      · exact fun e2 => by have := e k e2.symm; omega
    · rcases h.b with e | e
      · rw [e]; exact h9
      · exact fun e2 => by have := e k e2.symm; omega
  k := by
    rcases h2.k with e | e
    · rw [e]; exact h.k
    · exact .inr fun k e2 => Nat.le_trans h.size (e k e2)
  b := by
    rcases h2.b with e | e
    · rw [e]; exact h.b
    · exact .inr fun k e2 => Nat.le_trans h.size (e k e2)
theorem Fr.of_below (hb : Below W.heap.size W W') : Fr a W W' vK vB vK vB := ⟨hb.os, hb.tape, hb.output, hb.size, fun k hk _ _ _ _ _ _ _ _ => hb.block k hk, .inl rfl, .inl rfl⟩
theorem Fr.of_grown {g : Nat} (hg : W.grownBy W' (some g)) (h : g = a.bT ∨ g = a.gE ∨ g = a.gL ∨ g = a.gS ∨ g = a.bK ∨ g = a.bB) : Fr a W W' vK vB vK vB :=
  ⟨hg.os, hg.tape, hg.output, hg.size, fun k hk h1 h2 h3 h4 h5 h6 _ _ => hg.block k hk (fun e => by have := Option.some.inj e; rcases h with h | h | h | h | h | h <;> omega), .inl rfl, .inl rfl⟩
theorem Fr.of_K (hg : W.grownBy W' vK.ownBlock) (hat : vK'.ownBlock = vK.ownBlock ∨ ∀ k, vK'.ownBlock = some k → W.heap.size ≤ k) : Fr a W W' vK vB vK' vB :=
  ⟨hg.os, hg.tape, hg.output, hg.size, fun k hk _ _ _ _ _ _ h7 _ => hg.block k hk h7, hat, .inl rfl⟩
theorem Fr.of_B (hg : W.grownBy W' vB.ownBlock) (hat : vB'.ownBlock = vB.ownBlock ∨ ∀ k, vB'.ownBlock = some k → W.heap.size ≤ k) : Fr a W W' vK vB vK vB' :=
  ⟨hg.os, hg.tape, hg.output, hg.size, fun k hk _ _ _ _ _ _ _ h8 => hg.block k hk h8, .inl rfl, hat⟩
theorem Fr.own {row : Option Nat} (h : Fr a W W' vK vB vK' vB') (hg : W'.grownBy W2 row) (hr : ∀ r, row = some r → W.heap.size ≤ r ∧ ∃ o : Obj, W'.heap[r]? = some o ∧ o.isCells = false) : Fr a W W2 vK vB vK' vB' :=
  ⟨hg.os.trans h.os, hg.tape.trans h.tape, hg.output.trans h.output, Nat.le_trans h.size hg.size, fun k hk h1 h2 h3 h4 h5 h6 h7 h8 => (hg.block k (Nat.lt_of_lt_of_le hk h.size) (fun e => by have := (hr k e.symm).1; omega)).trans (h.block k hk h1 h2 h3 h4 h5 h6 h7 h8), h.k, h.b⟩
theorem Box.fr {b : Nat} {cs : Array Value} {t : TypeId} (hx : Box W b cs t) (h : Fr a W W' vK vB vK' vB') (o : a.Ok) (hb : a.bV < b) (hK : some b ≠ vK.ownBlock) (hB : some b ≠ vB.ownBlock) : Box W' b cs t := by
  obtain ⟨o0, o1, o2, o3, o4, o5, o6, o7, o8, o9, o10⟩ := o
  exact (h.block b hx.lt (by omega) (by omega) (by omega) (by omega) (by omega) (by omega) hK hB).trans hx
theorem Hold.fr {b : Nat} {ob : Obj} (hx : Hold W b ob) (hc : ob.isCells = false) (h : Fr a W W' vK vB vK' vB') (hs : BSh w0 W a pv n s vX vK vB vY ls) : Hold W' b ob := by
  refine (h.block b hx.lt ?_ ?_ ?_ ?_ ?_ ?_ (hx.ne_own hc hs.oK) (hx.ne_own hc hs.lo.outer)).trans hx
  · exact hx.ne_box hc hs.xT
  · exact fun e => hx.ne_own hc hs.oE (by rw [e]; rfl)
  · exact fun e => hx.ne_own hc hs.oL (by rw [e]; rfl)
  · exact fun e => hx.ne_own hc hs.oS (by rw [e]; rfl)
  · exact hx.ne_box hc hs.xK
  · exact hx.ne_box hc hs.xB
end
end Go.Proofs.YtjoomgojnpcbeaaDoor
end

section
namespace Go.Proofs.YtjoomgojnpcbeaaDoor
open Go Go.RowKit Gh
set_option maxRecDepth 100000
def ecell (e : Ge.Ed) (j : Nat) : Value := .int .i64 (if j = 0 then (e.1 : Nat) else (e.2 : Nat))
theorem e_one (e : Ge.Ed) (j : Nat) : (ecell e j).oneCell' = true := rfl
theorem eInfo : (Tryd.prog.info? 51).map (fun i => (i.zero, i.size, i.bytes)) = some (some (.agg #[.int .i64 0, .int .i64 0]), 2, 16) := by kernel_rfl
theorem Sl.edge_at {w : World} {B : Nat} {A : Option Addr} {E : List Ge.Ed} {k : Nat} (h : Sl 2 ecell w B A E) (hk : k < E.length) : ∃ la, A = some la ∧ (la.add (k * 2)).block < B ∧ w.cell? (la.add (k * 2)) = some (.int .i64 (E[k].1 : Nat)) ∧ w.cell? ⟨(la.add (k * 2)).block, (la.add (k * 2)).off + 1, none⟩ = some (.int .i64 (E[k].2 : Nat)) := by
  obtain ⟨ad, e, hb, h0, hj⟩ := h.sp (by decide) hk
  exact ⟨ad, e, hb, h0, hj 1 (by decide) (by decide)⟩
theorem Sl.nat_at {w : World} {B : Nat} {A : Option Addr} {L : List Nat} {k : Nat} (h : Sl 1 icell w B A (bsl L)) (hk : k < L.length) : ∃ ad, A = some ad ∧ ad.block < B ∧ w.cell? (ad.add k) = some (.int .i64 (L[k] : Nat)) := by
  obtain ⟨ad, e, hb, hc⟩ := h.int_at (k := k) (by rw [bsl_len]; exact hk)
  refine ⟨ad, e, hb, ?_⟩
  rw [hc]
  simp [bsl]
def RetO (w : World) (L : List Nat) (e : Ending) (w' : World) : Prop :=
  ∃ A c, e = .returned (.slice A L.length c) ∧ w'.ownsRow w.heap.size 3 1 (.slice A L.length c) L.length (flat 1 icell (bsl L)) ∧ Below w.heap.size w w'
theorem own_sl {W : World} {base : Nat} {A : Option Addr} {c : Nat} {L : List Nat} (h : W.ownsRow base 3 1 (.slice A L.length c) L.length (flat 1 icell (bsl L))) : Sl 1 icell W W.heap.size A (bsl L) := Sl.of_own (by decide) h
theorem RetO.of {w w' : World} {L : List Nat} {v : Value} (h : w'.ownsRow w.heap.size 3 1 v L.length (flat 1 icell (bsl L))) (hb : Below w.heap.size w w') : RetO w L (.returned v) w' := by
  have h2 := h
  rw [← bsl_len] at h2
  obtain ⟨A, c, rfl, -⟩ := own_slice (by decide) h2
  rw [bsl_len] at h
  rw [bsl_len]
  exact ⟨A, c, rfl, h, hb⟩
set_option maxHeartbeats 16000000 in
theorem rHas_ok (LA : Option Addr) (lc : Nat) (E : List Ge.Ed) (a b : Int) (w : World) (h : Sl 2 ecell w w.heap.size LA E) (hl : E.length ≤ 1000000) :
    Calls Tryd.prog 34 #[.slice LA E.length lc, .int .i64 a, .int .i64 b] w fun e w' => e = .returned (.bool (Ge.has E a b)) ∧ w = w' := by
  obtain ⟨res, hres⟩ : ∃ r, Ge.has E a b = r := ⟨_, rfl⟩
  rw [hres]
  have HR := Lib.hid hres
  clear hres
  go_enter Tryd.func34, Tryd.ntmps34
  go_wp2_with fail
  go_loopw [7] (fun i wr => ∃ k : Nat, k ≤ E.length ∧ i = .int .i64 k ∧ w = wr ∧ Hid (Ge.has (E.drop k) a b = res)) (fun i _ => E.length - (intOf i).toNat)
  case atStart => exact ⟨0, Nat.zero_le _, rfl, rfl, HR⟩
  case round =>
    obtain ⟨k, hk, rfl, rfl, HK⟩ := hrel
    by_cases hlt : k < E.length
    · have x0 : (0 : Int) ≤ (k : Int) := by omega
      have x1 : (k : Int) < (E.length : Int) := by omega
      have q0 : decide ((k : Int) < (E.length : Int)) = true := decide_eq_true x1
      obtain ⟨la, hla, hlb, a0, a1⟩ := h.edge_at hlt
      have HS : Hid (res = (((((E[k].1 : Nat) : Int) == a) && (((E[k].2 : Nat) : Int) == b)) || ((((E[k].1 : Nat) : Int) == b) && (((E[k].2 : Nat) : Int) == a)) || Ge.has (E.drop (k + 1)) a b)) := Lib.hid (by rw [← HK.out, List.drop_eq_getElem_cons hlt]; rfl)
      clear HK
      generalize E[k] = ed at *
      obtain ⟨x, y⟩ := ed
      dsimp only at a0 a1 HS
      obtain ⟨r1, h1⟩ : ∃ r, ((x : Int) == a) = r := ⟨_, rfl⟩
      obtain ⟨r2, h2⟩ : ∃ r, ((y : Int) == b) = r := ⟨_, rfl⟩
      obtain ⟨r3, h3⟩ : ∃ r, ((x : Int) == b) = r := ⟨_, rfl⟩
      obtain ⟨r4, h4⟩ : ∃ r, ((y : Int) == a) = r := ⟨_, rfl⟩
      rw [h1, h2, h3, h4] at HS
      subst hla
      cases r1 with
      | true =>
        cases r2 with
        | true =>
          have HF : Hid (true = res) := Lib.hid (by rw [HS.out]; rfl)
          clear HS
          have hund : undef = Value.tuple #[] := rfl
          go_wp2_with fail
          go_ret
          exact ⟨by rw [← HF.out]; rfl, rfl⟩
        | false =>
          cases r3 with
          | true =>
            cases r4 with
            | true =>
              have HF : Hid (true = res) := Lib.hid (by rw [HS.out]; rfl)
              clear HS
              have hund : undef = Value.tuple #[] := rfl
              go_wp2_with fail
              go_ret
              exact ⟨by rw [← HF.out]; rfl, rfl⟩
            | false =>
              have HK2 : Hid (Ge.has (E.drop (k + 1)) a b = res) := Lib.hid (by rw [HS.out]; rfl)
              clear HS
              have hund : undef = Value.tuple #[] := rfl
              go_wp2_with fail
              go_roundw
              case rel => exact ⟨k + 1, hlt, by go_num, by trivial, HK2⟩
              case measure => simp [intOf]; omega
          | false =>
            have HK2 : Hid (Ge.has (E.drop (k + 1)) a b = res) := Lib.hid (by rw [HS.out]; rfl)
            clear HS
            have hund : undef = Value.tuple #[] := rfl
            go_wp2_with fail
            go_roundw
            case rel => exact ⟨k + 1, hlt, by go_num, by trivial, HK2⟩
            case measure => simp [intOf]; omega
      | false =>
        cases r3 with
        | true =>
          cases r4 with
          | true =>
            have HF : Hid (true = res) := Lib.hid (by rw [HS.out]; rfl)
            clear HS
            have hund : undef = Value.tuple #[] := rfl
            go_wp2_with fail
            go_ret
            exact ⟨by rw [← HF.out]; rfl, rfl⟩
          | false =>
            have HK2 : Hid (Ge.has (E.drop (k + 1)) a b = res) := Lib.hid (by rw [HS.out]; rfl)
            clear HS
            have hund : undef = Value.tuple #[] := rfl
            go_wp2_with fail
            go_roundw
            case rel => exact ⟨k + 1, hlt, by go_num, by trivial, HK2⟩
            case measure => simp [intOf]; omega
        | false =>
          have HK2 : Hid (Ge.has (E.drop (k + 1)) a b = res) := Lib.hid (by rw [HS.out]; rfl)
          clear HS
          have hund : undef = Value.tuple #[] := rfl
          go_wp2_with fail
          go_roundw
          case rel => exact ⟨k + 1, hlt, by go_num, by trivial, HK2⟩
          case measure => simp [intOf]; omega
    · obtain rfl : k = E.length := by omega
      have q0 : decide ((E.length : Int) < (E.length : Int)) = false := decide_eq_false (by omega)
      have HF : Hid (false = res) := Lib.hid (by rw [← HK.out, List.drop_length]; rfl)
      clear HK
      go_wp2_with fail
      go_ret
      exact ⟨by rw [← HF.out]; rfl, rfl⟩
set_option maxHeartbeats 8000000 in
theorem rIn_any (LA : Option Addr) (lc : Nat) (l : List Int) (v : Int) (w : World) (h : Sl 1 icell w w.heap.size LA l) (hl : l.length ≤ 1000000) :
    Calls Tryd.prog 27 #[.slice LA l.length lc, .int .i64 v] w fun e w' => e = .returned (.bool (decide (v ∈ l))) ∧ w = w' := by
  obtain ⟨res, hres⟩ : ∃ r, decide (v ∈ l) = r := ⟨_, rfl⟩
  rw [hres]
  have HR := Lib.hid hres
  clear hres
  go_enter Tryd.func27, Tryd.ntmps27
  go_wp2_with fail
  go_loopw [5] (fun i wr => ∃ k : Nat, k ≤ l.length ∧ i = .int .i64 k ∧ w = wr ∧ Hid (decide (v ∈ l.drop k) = res)) (fun i _ => l.length - (intOf i).toNat)
  case atStart => exact ⟨0, Nat.zero_le _, rfl, rfl, HR⟩
  case round =>
    obtain ⟨k, hk, rfl, rfl, HK⟩ := hrel
    by_cases hlt : k < l.length
    · have x0 : (0 : Int) ≤ (k : Int) := by omega
      have x1 : (k : Int) < (l.length : Int) := by omega
      have q0 : decide ((k : Int) < (l.length : Int)) = true := decide_eq_true x1
      obtain ⟨la, hla, hlb, a0⟩ := h.int_at hlt
      have HS : Hid (res = decide (v ∈ l[k] :: l.drop (k + 1))) := Lib.hid (by rw [← HK.out, List.drop_eq_getElem_cons hlt])
      clear HK
      generalize l[k] = x at *
      subst hla
      by_cases hv : x = v
      · have HF : Hid (true = res) := Lib.hid (by rw [HS.out, hv]; simp)
        have q1 : (x == v) = true := by simpa using hv
        clear HS hv
        go_wp2_with fail
        go_ret
        exact ⟨by rw [← HF.out]; rfl, rfl⟩
      · have HK2 : Hid (decide (v ∈ l.drop (k + 1)) = res) := Lib.hid (by rw [HS.out, decide_eq_decide, List.mem_cons]; exact (or_iff_right (fun e => hv e.symm)).symm)
        have q1 : (x == v) = false := by simpa using hv
        clear HS hv
        go_wp2_with fail
        go_roundw
        case rel => exact ⟨k + 1, hlt, by go_num, by trivial, HK2⟩
        case measure => simp [intOf]; omega
    · obtain rfl : k = l.length := by omega
      have q0 : decide ((l.length : Int) < (l.length : Int)) = false := decide_eq_false (by omega)
      have HF : Hid (false = res) := Lib.hid (by rw [← HK.out, List.drop_length]; simp)
      clear HK
      go_wp2_with fail
      go_ret
      exact ⟨by rw [← HF.out]; rfl, rfl⟩
theorem mem_bsl {L : List Nat} {v : Nat} : (v : Int) ∈ bsl L ↔ v ∈ L := by
  unfold bsl
  rw [List.mem_map]
  exact ⟨fun ⟨x, hx, e⟩ => by rw [show v = x by omega]; exact hx, fun h => ⟨v, h, rfl⟩⟩
theorem rIn_ok (LA : Option Addr) (lc : Nat) (L : List Nat) (v : Nat) (w : World) (h : Sl 1 icell w w.heap.size LA (bsl L)) (hl : L.length ≤ 1000000) :
    Calls Tryd.prog 27 #[.slice LA L.length lc, .int .i64 v] w fun e w' => e = .returned (.bool (decide (v ∈ L))) ∧ w = w' := by
  have k := rIn_any LA lc (bsl L) v w h (by rw [bsl_len]; exact hl)
  rw [bsl_len] at k
  refine k.mono ?_
  rintro e w' ⟨rfl, rfl⟩
  refine ⟨ret_bool ?_, rfl⟩
  rw [decide_eq_decide, mem_bsl]
set_option maxHeartbeats 8000000 in
theorem rAll_ok (n : Nat) (w : World) (hn : n ≤ 1000000) :
    Calls Tryd.prog 16 #[.int .i64 n] w (RetO w (List.range n)) := by
  obtain ⟨i0, hi, hz0, hz1, hz2⟩ := info_parts intInfoD
  have Hi := Lib.hid hi; have Hz0 := Lib.hid hz0; have Hz1 := Lib.hid hz1; have Hz2 := Lib.hid hz2
  clear hi hz0 hz1 hz2
  go_enter Tryd.func16, Tryd.ntmps16
  go_wp2_with fail
  go_loopw [3, 4] (fun o i wr => ∃ k : Nat, k ≤ n ∧ i = .int .i64 k ∧ Below w.heap.size w wr ∧ wr.ownsRow w.heap.size 3 1 o k (flat 1 icell (bsl (List.range k)))) (fun _ i _ => n - (intOf i).toNat)
  case atStart => exact ⟨0, Nat.zero_le _, rfl, Below.refl _ _, own_nil _ _ _ 1 icell⟩
  case round =>
    obtain ⟨k, hk, rfl, hBr, hown⟩ := hrel
    by_cases hlt : k < n
    · have q0 : decide ((k : Int) < (n : Int)) = true := decide_eq_true (by omega)
      go_wp2_with (at_builtin; refine wpList_push (w0 := w) (cell := icell) (y := ((k : Nat) : Int)) rfl _ _ _ rfl w.heap.size w.heap.size 3 i0 _ 8 Tryd.underlying31 Hi.out Hz0.out Hz1.out Hz2.out rfl (by decide) _ _ _ rfl hown _ _ rfl _ rfl (fun _ => rfl) (by unfold maxLen; omega) (by omega) hBr.size (Nat.le_refl _) hBr ?_; intro v' w' hown' hb' _)
      go_roundw
      case rel => exact ⟨k + 1, hlt, by go_num, hb', by rw [List.range_succ, bsl_snoc]; exact hown'⟩
      case measure => simp [intOf]; omega
    · obtain rfl : k = n := by omega
      have q0 : decide ((k : Int) < (k : Int)) = false := decide_eq_false (by omega)
      go_wp2_with fail
      go_ret
      exact RetO.of (by rw [List.length_range]; exact hown) hBr
set_option maxHeartbeats 8000000 in
theorem rWithout_ok (LA : Option Addr) (lc : Nat) (L : List Nat) (v : Nat) (w : World) (h : Sl 1 icell w w.heap.size LA (bsl L)) (hl : L.length ≤ 1000000) :
    Calls Tryd.prog 56 #[.slice LA L.length lc, .int .i64 v] w (RetO w (Ge.wo L v)) := by
  obtain ⟨i0, hi, hz0, hz1, hz2⟩ := info_parts intInfoD
  have Hi := Lib.hid hi; have Hz0 := Lib.hid hz0; have Hz1 := Lib.hid hz1; have Hz2 := Lib.hid hz2
  clear hi hz0 hz1 hz2
  go_enter Tryd.func56, Tryd.ntmps56
  go_wp2_with fail
  go_loopw [5, 6] (fun o i wr => ∃ k : Nat, k ≤ L.length ∧ i = .int .i64 k ∧ Below w.heap.size w wr ∧ wr.ownsRow w.heap.size 3 1 o (Ge.wo (L.take k) v).length (flat 1 icell (bsl (Ge.wo (L.take k) v)))) (fun _ i _ => L.length - (intOf i).toNat)
  case atStart => exact ⟨0, Nat.zero_le _, rfl, Below.refl _ _, own_nil _ _ _ 1 icell⟩
  case round =>
    obtain ⟨k, hk, rfl, hBr, hown⟩ := hrel
    by_cases hlt : k < L.length
    · have x0 : (0 : Int) ≤ (k : Int) := by omega
      have x1 : (k : Int) < (L.length : Int) := by omega
      have q0 : decide ((k : Int) < (L.length : Int)) = true := decide_eq_true x1
      obtain ⟨la, hla, hlb, a0⟩ := ((h.below hBr).more hBr.size).nat_at hlt
      have HS : Hid (Ge.wo (L.take (k + 1)) v = if L[k] = v then Ge.wo (L.take k) v else Ge.wo (L.take k) v ++ [L[k]]) := Lib.hid (by rw [List.take_succ_eq_append_getElem hlt, Ge.wo_snoc])
      have hle : (Ge.wo (L.take k) v).length ≤ k := by unfold Ge.wo; refine Nat.le_trans (List.length_filter_le _ _) ?_; rw [List.length_take]; omega
      generalize L[k] = x at *
      generalize Ge.wo (L.take k) v = os at *
      subst hla
      by_cases hv : x = v
      · have q1 : ((x : Int) != (v : Int)) = false := by simpa using (by omega : (x : Int) = (v : Int))
        have HS2 : Hid (Ge.wo (L.take (k + 1)) v = os) := Lib.hid (by rw [HS.out, if_pos hv])
        clear HS hv
        go_wp2_with fail
        go_roundw
        case rel => exact ⟨k + 1, hlt, by go_num, hBr, by rw [HS2.out]; exact hown⟩
        case measure => simp [intOf]; omega
      · have q1 : ((x : Int) != (v : Int)) = true := by simpa using (by omega : ¬ (x : Int) = (v : Int))
        have HS2 : Hid (Ge.wo (L.take (k + 1)) v = os ++ [x]) := Lib.hid (by rw [HS.out, if_neg hv])
        clear HS hv
        go_wp2_with (at_builtin; refine wpList_push (w0 := w) (cell := icell) (y := ((x : Nat) : Int)) rfl _ _ _ rfl w.heap.size w.heap.size 3 i0 _ 8 Tryd.underlying31 Hi.out Hz0.out Hz1.out Hz2.out rfl (by decide) _ _ _ rfl hown _ _ rfl _ rfl (fun _ => rfl) (by unfold maxLen; omega) (by omega) hBr.size (Nat.le_refl _) hBr ?_; intro v' w' hown' hb' _)
        go_roundw
        case rel => exact ⟨k + 1, hlt, by go_num, hb', by rw [HS2.out, bsl_snoc, List.length_append]; exact hown'⟩
        case measure => simp [intOf]; omega
    · obtain rfl : k = L.length := by omega
      have q0 : decide ((L.length : Int) < (L.length : Int)) = false := decide_eq_false (by omega)
      rw [List.take_length] at hown
      go_wp2_with fail
      go_ret
      exact RetO.of hown hBr
set_option maxHeartbeats 8000000 in
theorem rNbr_ok (EA : Option Addr) (ec : Nat) (E : List Ge.Ed) (LA : Option Addr) (lc : Nat) (L : List Nat) (v : Nat) (w : World) (hE : Sl 2 ecell w w.heap.size EA E) (hEl : E.length ≤ 1000000) (h : Sl 1 icell w w.heap.size LA (bsl L)) (hl : L.length ≤ 1000000) :
    Calls Tryd.prog 37 #[.slice EA E.length ec, .int .i64 v, .slice LA L.length lc] w (RetO w (Ge.nbr E v L)) := by
  obtain ⟨i0, hi, hz0, hz1, hz2⟩ := info_parts intInfoD
  have Hi := Lib.hid hi; have Hz0 := Lib.hid hz0; have Hz1 := Lib.hid hz1; have Hz2 := Lib.hid hz2
  clear hi hz0 hz1 hz2
  go_enter Tryd.func37, Tryd.ntmps37
  go_wp2_with fail
  go_loopw [7, 8] (fun o i wr => ∃ k : Nat, k ≤ L.length ∧ i = .int .i64 k ∧ Below w.heap.size w wr ∧ wr.ownsRow w.heap.size 3 1 o (Ge.nbr E v (L.take k)).length (flat 1 icell (bsl (Ge.nbr E v (L.take k))))) (fun _ i _ => L.length - (intOf i).toNat)
  case atStart => exact ⟨0, Nat.zero_le _, rfl, Below.refl _ _, own_nil _ _ _ 1 icell⟩
  case round =>
    obtain ⟨k, hk, rfl, hBr, hown⟩ := hrel
    by_cases hlt : k < L.length
    · have x0 : (0 : Int) ≤ (k : Int) := by omega
      have x1 : (k : Int) < (L.length : Int) := by omega
      have q0 : decide ((k : Int) < (L.length : Int)) = true := decide_eq_true x1
      obtain ⟨la, hla, hlb, a0⟩ := ((h.below hBr).more hBr.size).nat_at hlt
      have HS : Hid (Ge.nbr E v (L.take (k + 1)) = if Ge.has E v L[k] = true then Ge.nbr E v (L.take k) ++ [L[k]] else Ge.nbr E v (L.take k)) := Lib.hid (by rw [List.take_succ_eq_append_getElem hlt, Ge.nbr_snoc])
      have hle : (Ge.nbr E v (L.take k)).length ≤ k := by unfold Ge.nbr; refine Nat.le_trans (List.length_filter_le _ _) ?_; rw [List.length_take]; omega
      have kH := rHas_ok EA ec E v L[k] wr ((hE.below hBr).more hBr.size) hEl
      generalize L[k] = x at *
      generalize Ge.nbr E v (L.take k) = os at *
      subst hla
      cases hv : Ge.has E v x with
      | false =>
        rw [hv] at kH
        have HS2 : Hid (Ge.nbr E v (L.take (k + 1)) = os) := Lib.hid (by rw [HS.out, if_neg (by rw [hv]; decide)])
        clear HS hv
        go_wp2_with fail
        refine kH.mono ?_
        rintro e w2 ⟨rfl, rfl⟩
        go_wp2_with fail
        go_roundw
        case rel => exact ⟨k + 1, hlt, by go_num, hBr, by rw [HS2.out]; exact hown⟩
        case measure => simp [intOf]; omega
      | true =>
        rw [hv] at kH
        have HS2 : Hid (Ge.nbr E v (L.take (k + 1)) = os ++ [x]) := Lib.hid (by rw [HS.out, if_pos hv])
        clear HS hv
        go_wp2_with fail
        refine kH.mono ?_
        rintro e w2 ⟨rfl, rfl⟩
        go_wp2_with (at_builtin; refine wpList_push (w0 := w) (cell := icell) (y := ((x : Nat) : Int)) rfl _ _ _ rfl w.heap.size w.heap.size 3 i0 _ 8 Tryd.underlying31 Hi.out Hz0.out Hz1.out Hz2.out rfl (by decide) _ _ _ rfl hown _ _ rfl _ rfl (fun _ => rfl) (by unfold maxLen; omega) (by omega) hBr.size (Nat.le_refl _) hBr ?_; intro v' w' hown' hb' _)
        go_roundw
        case rel => exact ⟨k + 1, hlt, by go_num, hb', by rw [HS2.out, bsl_snoc, List.length_append]; exact hown'⟩
        case measure => simp [intOf]; omega
    · obtain rfl : k = L.length := by omega
      have q0 : decide ((L.length : Int) < (L.length : Int)) = false := decide_eq_false (by omega)
      rw [List.take_length] at hown
      go_wp2_with fail
      go_ret
      exact RetO.of hown hBr
set_option maxHeartbeats 16000000 in
theorem rAdd_off (n : Nat) (LA : Option Addr) (lc : Nat) (E : List Ge.Ed) (a b : Int) (w : World) (hbad : Ge.badA n a b = true) :
    Calls Tryd.prog 30 #[.int .i64 n, .slice LA E.length lc, .int .i64 a, .int .i64 b] w fun e w' => e = .returned (.tuple #[.slice LA E.length lc, .int .i64 2]) ∧ w = w' := by
  unfold Ge.badA at hbad
  obtain ⟨r1, h1⟩ : ∃ r, decide (a < 0) = r := ⟨_, rfl⟩
  obtain ⟨r2, h2⟩ : ∃ r, decide ((n : Int) ≤ a) = r := ⟨_, rfl⟩
  obtain ⟨r3, h3⟩ : ∃ r, decide (b < 0) = r := ⟨_, rfl⟩
  obtain ⟨r4, h4⟩ : ∃ r, decide ((n : Int) ≤ b) = r := ⟨_, rfl⟩
  obtain ⟨r5, h5⟩ : ∃ r, (a == b) = r := ⟨_, rfl⟩
  rw [h1, h2, h3, h4, show decide (a = b) = r5 from h5] at hbad
  have hund : undef = Value.tuple #[] := rfl
  cases r1 with
  | true =>
    clear hbad
    go_enter Tryd.func30, Tryd.ntmps30
    go_wp2_with fail
    go_ret2
    exact ⟨rfl, rfl⟩
  | false =>
    cases r2 with
    | true =>
      clear hbad
      go_enter Tryd.func30, Tryd.ntmps30
      go_wp2_with fail
      go_ret2
      exact ⟨rfl, rfl⟩
    | false =>
      cases r3 with
      | true =>
        clear hbad
        go_enter Tryd.func30, Tryd.ntmps30
        go_wp2_with fail
        go_ret2
        exact ⟨rfl, rfl⟩
      | false =>
        cases r4 with
        | true =>
          clear hbad
          go_enter Tryd.func30, Tryd.ntmps30
          go_wp2_with fail
          go_ret2
          exact ⟨rfl, rfl⟩
        | false =>
          cases r5 with
          | true =>
            clear hbad
            go_enter Tryd.func30, Tryd.ntmps30
            go_wp2_with fail
            go_ret2
            exact ⟨rfl, rfl⟩
          | false =>
            cases hbad
theorem bad_parts {n : Nat} {a b : Int} (h : Ge.badA n a b = false) : decide (a < 0) = false ∧ decide ((n : Int) ≤ a) = false ∧ decide (b < 0) = false ∧ decide ((n : Int) ≤ b) = false ∧ (a == b) = false := by
  unfold Ge.badA at h
  simp only [Bool.or_eq_false_iff] at h
  exact ⟨h.1.1.1.1, h.1.1.1.2, h.1.1.2, h.1.2, h.2⟩
set_option maxHeartbeats 16000000 in
theorem rAdd_busy (n : Nat) (LA : Option Addr) (lc : Nat) (E : List Ge.Ed) (a b : Int) (w : World) (h : Sl 2 ecell w w.heap.size LA E) (hl : E.length ≤ 1000000) (hbad : Ge.badA n a b = false) (hh : Ge.has E a b = true) :
    Calls Tryd.prog 30 #[.int .i64 n, .slice LA E.length lc, .int .i64 a, .int .i64 b] w fun e w' => e = .returned (.tuple #[.slice LA E.length lc, .int .i64 11]) ∧ w = w' := by
  obtain ⟨h1, h2, h3, h4, h5⟩ := bad_parts hbad
  have kH := rHas_ok LA lc E a b w h hl
  rw [hh] at kH
  have hund : undef = Value.tuple #[] := rfl
  clear hbad hh
  go_enter Tryd.func30, Tryd.ntmps30
  go_wp2_with fail
  refine kH.mono ?_
  rintro e w2 ⟨rfl, rfl⟩
  go_wp2_with fail
  go_ret2
  exact ⟨rfl, rfl⟩
set_option maxHeartbeats 16000000 in
theorem rAdd_ok (n : Nat) (LA : Option Addr) (lc : Nat) (E : List Ge.Ed) (x y : Nat) (a b : Int) (hxa : a = x) (hyb : b = y) (w : World) (h : Sl 2 ecell w w.heap.size LA E) (hl : E.length ≤ 1000000) (hbad : Ge.badA n a b = false) (hh : Ge.has E a b = false) :
    Calls Tryd.prog 30 #[.int .i64 n, .slice LA E.length lc, .int .i64 a, .int .i64 b] w fun e w' => ∃ v', e = .returned (.tuple #[v', .int .i64 0]) ∧ w'.ownsRow w.heap.size 51 2 v' (E ++ [(x, y)]).length (flat 2 ecell (E ++ [(x, y)])) ∧ Below w.heap.size w w' := by
  obtain ⟨i0, hi, hz0, hz1, hz2⟩ := info_parts eInfo
  have Hi := Lib.hid hi; have Hz0 := Lib.hid hz0; have Hz1 := Lib.hid hz1; have Hz2 := Lib.hid hz2
  clear hi hz0 hz1 hz2
  obtain ⟨h1, h2, h3, h4, h5⟩ := bad_parts hbad
  have kH := rHas_ok LA lc E a b w h hl
  rw [hh] at kH
  have hund : undef = Value.tuple #[] := rfl
  have HO1 := Lib.hid (own_empty w w.heap.size 51 2 ecell (Nat.le_refl _))
  have HB1 : Hid (Below w.heap.size w (w.alloc (.cells #[] 51))) := Lib.hid ((Below.refl _ _).alloc (Nat.le_refl _) _)
  have HXA := Lib.hid hxa
  have HYB := Lib.hid hyb
  clear hbad hh hxa hyb
  go_enter Tryd.func30, Tryd.ntmps30
  go_wp2_with fail
  refine kH.mono ?_
  rintro e w2 ⟨rfl, rfl⟩
  go_wp2_with (at_builtin; go_loud (first
    | (refine wpList_append_sl _ (w0 := w) (cell := ecell) rfl _ _ _ rfl w.heap.size w.heap.size 51 i0 _ 16 Tryd.underlying22 Hi.out Hz0.out Hz1.out Hz2.out rfl (by decide) _ 0 [] rfl HO1.out w.heap.size LA lc E rfl (h.below HB1.out) (fun y j => e_one y j) (by unfold maxLen; omega) (by omega) (by simp) (Nat.le_refl _) HB1.out ?_
       intro v1 w1 own1 B1 _)
    | (refine wpList_push (w0 := w) (cell := ecell) (y := (x, y)) rfl _ _ _ rfl w.heap.size w.heap.size 51 i0 _ 16 Tryd.underlying22 Hi.out Hz0.out Hz1.out Hz2.out rfl (by decide) _ _ _ rfl own1 _ _ (by rw [HXA.out, HYB.out]; rfl) _ rfl (fun _ => rfl) (by unfold maxLen; omega) (by omega) B1.size (Nat.le_refl _) B1 ?_
       intro v3 w3 own3 B3 _)))
  go_ret2
  exact ⟨v3, rfl, by simpa using own3, B3⟩
end Go.Proofs.YtjoomgojnpcbeaaDoor
end

section
namespace Go.Proofs.YtjoomgojnpcbeaaDoor
open Go Go.RowKit
set_option maxRecDepth 100000
theorem Sl.one_at {α : Type} {cell : α → Nat → Value} {w : World} {B : Nat} {A : Option Addr} {xs : List α} {k : Nat} (h : Sl 1 cell w B A xs) (hk : k < xs.length) : ∃ ad, A = some ad ∧ (ad.add k).block < B ∧ w.cell? (ad.add k) = some (cell xs[k] 0) := by
  obtain ⟨ad, e, hb, hc⟩ := h k hk
  exact ⟨ad, e, by rw [add_block]; exact hb, by simpa using hc 0 (by omega)⟩
set_option maxHeartbeats 8000000 in
theorem lEqual_any (A B : Option Addr) (ac bc : Nat) (a b : List Int) (w : World) (hA : Sl 1 icell w w.heap.size A a) (hB' : Sl 1 icell w w.heap.size B b) (ha : a.length ≤ 1000000) :
    Calls Tryd.prog 19 #[.slice A a.length ac, .slice B b.length bc] w fun e w' => e = .returned (.bool (decide (a = b))) ∧ Below w.heap.size w w' := by
  obtain ⟨r, hr⟩ : ∃ r, decide (a = b) = r := ⟨_, rfl⟩
  rw [hr]
  have HR := Lib.hid hr
  clear hr
  by_cases hl : a.length = b.length
  · have q : ((a.length : Int) != (b.length : Int)) = false := by simp; omega
    have HN : Hid (∀ k (h1 : k < a.length) (h2 : k < b.length), a[k] ≠ b[k] → false = r) := Lib.hid (fun k h1 h2 h => by
      rw [← HR.out]; symm
      rw [decide_eq_false_iff_not]
      intro e
      subst e
      exact h rfl)
    have HY : Hid ((∀ k (h1 : k < a.length) (h2 : k < b.length), a[k] = b[k]) → true = r) := Lib.hid (fun h => by
      rw [← HR.out]; symm
      rw [decide_eq_true_eq]
      exact List.ext_getElem hl h)
    go_enter Tryd.func19, Tryd.ntmps19
    go_wp2_with fail
    go_loopw [5] (fun i wr => ∃ k : Nat, k ≤ a.length ∧ i = .int .i64 k ∧ Below w.heap.size w wr ∧ Hid (∀ j (h1 : j < a.length) (h2 : j < b.length), j < k → a[j] = b[j])) (fun i _ => a.length - (intOf i).toNat)
    case atStart => exact ⟨0, Nat.zero_le _, rfl, Below.refl _ _, Lib.hid (fun j _ _ h => absurd h (by omega))⟩
    case round =>
      clear q
      obtain ⟨k, hk, rfl, hB, HK⟩ := hrel
      by_cases hlt : k < a.length
      · have hlt2 : k < b.length := by omega
        obtain ⟨la, rfl, hlb, a0⟩ := ((hA.below hB).more hB.size).one_at hlt
        obtain ⟨lb, rfl, hlb2, b0⟩ := ((hB'.below hB).more hB.size).one_at hlt2
        have l1 : (la.add k).block < wr.heap.size := by first | exact hlb | (rw [add_block]; exact hlb)
        have l2 : (lb.add k).block < wr.heap.size := by first | exact hlb2 | (rw [add_block]; exact hlb2)
        simp only [icell] at a0 b0
        have HNk := Lib.hid (HN.out k hlt hlt2)
        have HK2 : Hid (a[k] = b[k] → ∀ j (h1 : j < a.length) (h2 : j < b.length), j < k + 1 → a[j] = b[j]) := Lib.hid (fun h j h1 h2 h3 => by
          by_cases e : j = k
          · subst e; exact h
          · exact HK.out j h1 h2 (by omega))
        generalize a[k] = x at *
        generalize b[k] = y at *
        by_cases he : x = y
        · have q : (x != y) = false := by simp [he]
          have HK3 := Lib.hid (HK2.out he)
          clear he
          go_wp2_with fail
          refine wp_region_kept wr.heap.size wr (by kernel_rfl) (by kernel_rfl) (Below.refl _ _) ?_
          repeat (go_big_quiet_step (fail))
          refine wpQuiet_nil ?_
          rintro w5 ⟨⟨_, hb5⟩, rfl⟩
          go_wp2_with fail
          go_roundw
          case rel => exact ⟨k + 1, hlt, by go_num, after_ hB hb5, HK3⟩
          case measure => simp [intOf]; omega
        · have q : (x != y) = true := by simp [he]
          have HF := Lib.hid (HNk.out he)
          clear he
          go_wp2_with fail
          refine wp_region_kept wr.heap.size wr (by kernel_rfl) (by kernel_rfl) (Below.refl _ _) ?_
          repeat (go_big_quiet_step (fail))
          refine wpQuiet_nil ?_
          rintro w5 ⟨⟨_, hb5⟩, rfl⟩
          go_wp2_with fail
          go_ret
          exact ⟨ret_bool HF.out, after_ hB hb5⟩
      · have HF := Lib.hid (HY.out (fun j h1 h2 => HK.out j h1 h2 (by omega)))
        go_wp2_with fail
        go_ret
        exact ⟨ret_bool HF.out, hB⟩
  · have q : ((a.length : Int) != (b.length : Int)) = true := by simp; omega
    have HF : Hid (false = r) := Lib.hid (by
      rw [← HR.out]; symm
      rw [decide_eq_false_iff_not]
      intro e
      exact hl (by rw [e]))
    clear hl
    go_enter Tryd.func19, Tryd.ntmps19
    go_wp2_with fail
    go_ret
    exact ⟨ret_bool HF.out, Below.refl _ _⟩
set_option maxHeartbeats 8000000 in
theorem lAlike_any (A B : Option Addr) (ac bc : Nat) (us vs : List SLc) (w : World) (hA : LL w A us) (hB' : LL w B vs) (hl : us.length ≤ 1000000) (hi : ∀ s ∈ us, s.xs.length ≤ 1000000) :
    Calls Tryd.prog 13 #[.slice A us.length ac, .slice B vs.length bc] w fun e w' => e = .returned (.bool (decide (us.map (·.xs) = vs.map (·.xs)))) ∧ Below w.heap.size w w' := by
  obtain ⟨r, hr⟩ : ∃ r, decide (us.map (·.xs) = vs.map (·.xs)) = r := ⟨_, rfl⟩
  rw [hr]
  have HR := Lib.hid hr
  clear hr
  by_cases hle : us.length = vs.length
  · have q : ((us.length : Int) != (vs.length : Int)) = false := by simp; omega
    have HN : Hid (∀ k (h1 : k < us.length) (h2 : k < vs.length), us[k].xs ≠ vs[k].xs → false = r) := Lib.hid (fun k h1 h2 h => by
      rw [← HR.out]; symm
      rw [decide_eq_false_iff_not]
      intro e
      have := congrArg (fun l => l[k]?) e
      simp only [List.getElem?_map, List.getElem?_eq_getElem h1, List.getElem?_eq_getElem h2, Option.map_some, Option.some.injEq] at this
      exact h this)
    have HY : Hid ((∀ k (h1 : k < us.length) (h2 : k < vs.length), us[k].xs = vs[k].xs) → true = r) := Lib.hid (fun h => by
      rw [← HR.out]; symm
      rw [decide_eq_true_eq]
      exact List.ext_getElem (by simpa using hle) (fun k h1 h2 => by simpa using h k (by simpa using h1) (by simpa using h2)))
    go_enter Tryd.func13, Tryd.ntmps13
    go_wp2_with fail
    go_loopw [5] (fun i wr => ∃ k : Nat, k ≤ us.length ∧ i = .int .i64 k ∧ Below w.heap.size w wr ∧ Hid (∀ j (h1 : j < us.length) (h2 : j < vs.length), j < k → us[j].xs = vs[j].xs)) (fun i _ => us.length - (intOf i).toNat)
    case atStart => exact ⟨0, Nat.zero_le _, rfl, Below.refl _ _, Lib.hid (fun j _ _ h => absurd h (by omega))⟩
    case round =>
      obtain ⟨k, hk, rfl, hBr, HE⟩ := hrel
      by_cases hlt : k < us.length
      · have hlt2 : k < vs.length := by omega
        have gA := hA.next hBr
        have gB := hB'.next hBr
        obtain ⟨la, hla, hlb, a0⟩ := gA.outer.one_at hlt
        obtain ⟨lb, hlb2, hlb3, b0⟩ := gB.outer.one_at hlt2
        replace a0 : wr.cell? (la.add k) = some (.slice us[k].A us[k].xs.length us[k].c) := a0
        replace b0 : wr.cell? (lb.add k) = some (.slice vs[k].A vs[k].xs.length vs[k].c) := b0
        have x0 : (0 : Int) ≤ (k : Int) := by omega
        have x1 : (k : Int) < (us.length : Int) := by omega
        have x2 : (k : Int) < (vs.length : Int) := by omega
        have q0 : decide ((k : Int) < (us.length : Int)) = true := decide_eq_true x1
        have iA := gA.inner _ (List.getElem_mem hlt)
        have iB := gB.inner _ (List.getElem_mem hlt2)
        have il := hi _ (List.getElem_mem hlt)
        have HN2 := Lib.hid (HN.out k hlt hlt2)
        have HS : Hid (us[k].xs = vs[k].xs → ∀ j (h1 : j < us.length) (h2 : j < vs.length), j < k + 1 → us[j].xs = vs[j].xs) := Lib.hid (fun h j h1 h2 h3 => by
          by_cases e : j = k
          · subst e; exact h
          · exact HE.out j h1 h2 (by omega))
        clear HE
        obtain ⟨z, hz⟩ : ∃ z, decide (us[k].xs = vs[k].xs) = z := ⟨_, rfl⟩
        have kS : Hid (∀ u : Kept wr.heap.size wr, Calls Tryd.prog 19 #[.slice us[k].A us[k].xs.length us[k].c, .slice vs[k].A vs[k].xs.length vs[k].c] u.val fun e w' => e = .returned (.bool z) ∧ Below u.val.heap.size u.val w') := Lib.hid (fun u => by rw [← hz]; exact lEqual_any _ _ _ _ _ _ u.val ((iA.below u.h).more u.h.size) ((iB.below u.h).more u.h.size) il)
        have HZ := Lib.hid hz
        clear hz
        generalize us[k] = sa at *
        generalize vs[k] = sb at *
        subst hla
        subst hlb2
        cases z with
        | false =>
          have HF := Lib.hid (HN2.out (fun e => by have := HZ.out; rw [decide_eq_true e] at this; cases this))
          clear HN2 HS
          go_wp2_with fail
          refine wp_region_kept wr.heap.size wr (by kernel_rfl) (by kernel_rfl) (Below.refl _ _) ?_
          repeat (go_big_quiet_step ((go_at_call 19; exact Kept.calls (Nat.le_refl _) (kS.out _))))
          refine wpQuiet_nil ?_
          rintro w5 ⟨⟨w5x, hb5⟩, hw5⟩
          dsimp only at hw5
          subst hw5
          go_wp2_with fail
          go_ret
          exact ⟨by rw [← HF.out]; rfl, after_ hBr hb5⟩
        | true =>
          have HE := Lib.hid (HS.out (of_decide_eq_true HZ.out))
          clear HN2 HS
          go_wp2_with fail
          refine wp_region_kept wr.heap.size wr (by kernel_rfl) (by kernel_rfl) (Below.refl _ _) ?_
          repeat (go_big_quiet_step ((go_at_call 19; exact Kept.calls (Nat.le_refl _) (kS.out _))))
          refine wpQuiet_nil ?_
          rintro w5 ⟨⟨w5x, hb5⟩, hw5⟩
          dsimp only at hw5
          subst hw5
          go_wp2_with fail
          go_roundw
          case rel => exact ⟨k + 1, hlt, by go_num, after_ hBr hb5, HE⟩
          case measure => simp [intOf]; omega
      · obtain rfl : k = us.length := by omega
        have HF := Lib.hid (HY.out (fun j h1 h2 => HE.out j h1 h2 h1))
        have q0 : decide ((us.length : Int) < (us.length : Int)) = false := decide_eq_false (by omega)
        go_wp2_with fail
        go_ret
        exact ⟨by rw [← HF.out]; rfl, hBr⟩
  · have q : ((us.length : Int) != (vs.length : Int)) = true := by simp; omega
    have HF : Hid (false = r) := Lib.hid (by
      rw [← HR.out]; symm
      rw [decide_eq_false_iff_not]
      intro e
      exact hle (by simpa using congrArg List.length e))
    go_enter Tryd.func13, Tryd.ntmps13
    go_wp2_with fail
    go_ret
    exact ⟨by rw [← HF.out]; rfl, Below.refl _ _⟩
end Go.Proofs.YtjoomgojnpcbeaaDoor
end

section
namespace Go.Proofs.YtjoomgojnpcbeaaDoor
open Go Go.RowKit Gh
set_option maxRecDepth 100000
theorem own_apart {W : World} {base2 : Nat} {e2 : TypeId} {s2 : Nat} {v1 v2 : Value} {n2 : Nat} {x2 : List Value} (h2 : W.ownsRow base2 e2 s2 v2 n2 x2) (hq : ∀ q, v1.ownBlock = some q → q < base2) : v2.ownBlock = none ∨ v2.ownBlock ≠ v1.ownBlock := by
 cases hv : v2.ownBlock with
 | none => exact .inl rfl
 | some q =>
  refine .inr fun e => ?_
  have h3 := (h2.lt q hv).1
  have := hq q e.symm
  omega
end Go.Proofs.YtjoomgojnpcbeaaDoor
end
