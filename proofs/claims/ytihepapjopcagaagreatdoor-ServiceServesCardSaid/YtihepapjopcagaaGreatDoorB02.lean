/- A bundle of texts: Mem, Tail. -/
import Derived.WalkKit
import Derived.WalkLawsBesides
import Derived.WalkSpells
import Derived.LoopTactic
import Derived.Lib.Hide
import Derived.Outline
import Derived.Below
import Derived.Deep.QuietTactic
import Derived.BigQuiet
import Derived.BigGuardPart
import Derived.Deep.Draws
import Derived.Deep.AppendLies
import Derived.Laws.OwnMore
import Derived.OwnWalk
import Derived.Laws.Rows
import Derived.Maps.AppendAt
import Derived.StillTail
import Derived.Deep.Quiet
/- Memory read as lists: a slice of elements, each of a fixed number of cells. Our own words over the library's ownsRow, Below, grownBy. -/
section
namespace Go.Proofs.YtihepapjopcagaaGreatDoor
open Go Go.RowKit

theorem ret_bool {a b : Bool} (h : a = b) : Ending.returned (.bool a) = .returned (.bool b) := by rw [h]
theorem ret_int {k : IntKind} {a b : Int} (h : a = b) : Ending.returned (.int k a) = .returned (.int k b) := by rw [h]
theorem ret_int2 {k k' : IntKind} {a b a' b' : Int} (h : a = b) (h' : a' = b') : Ending.returned (.tuple #[.int k a, .int k' a']) = .returned (.tuple #[.int k b, .int k' b']) := by rw [h, h']

theorem bcell {W w1 : World} (hb : Below W.heap.size W w1) : (∀ b o, b < W.heap.size → w1.cell? ⟨b, o, none⟩ = W.cell? ⟨b, o, none⟩) ∧ (∀ b o, b < W.heap.size → w1.frozen? ⟨b, o, none⟩ = W.frozen? ⟨b, o, none⟩) :=
  ⟨fun b o h => hb.cell (p := ⟨b, o, none⟩) h, fun b o h => hb.frozen (p := ⟨b, o, none⟩) h⟩

theorem below_drewN {B : Nat} {a w : World} (h : Below B a w) (n : Nat) : Below B a (w.drewN n) := ⟨h.os, h.tape, h.output, h.size, h.block⟩

theorem add_block (a : Addr) (n : Nat) : (a.add n).block = a.block := by unfold Addr.add; split <;> rfl
theorem add_add (a : Addr) (i j : Nat) : (a.add i).add j = a.add (i + j) := by
  unfold Addr.add
  by_cases hi : i = 0 <;> by_cases hj : j = 0 <;> simp [hi, hj, Nat.add_assoc]

/-- A call behind a world that has kept everything below B. -/
theorem after {B : Nat} {w a b : World} (h : Below B w a) (hB : B ≤ a.heap.size) (k : Below a.heap.size a b) : Below B w b := h.trans (k.mono hB)
theorem after_ {w a b : World} (h : Below w.heap.size w a) (k : Below a.heap.size a b) : Below w.heap.size w b := h.trans (k.mono h.size)

theorem after3 {n B : Nat} {w a b : World} {R : Prop} (k : Below n a b) (hn : n = a.heap.size) (h : Below B w a ∧ R) (hB : B ≤ w.heap.size) : Below B w b := h.1.trans (k.mono (by rw [hn]; exact Nat.le_trans hB h.1.size))

/-- The worlds that have kept everything below B. A class for regions that draw their order, whose operations read below B and whose callees only make memory. -/
structure Kept (B : Nat) (w : World) where
  val : World
  h : Below B w val
instance {B : Nat} {w : World} : Nonempty (Kept B w) := ⟨⟨w, Below.refl _ _⟩⟩
@[go_sem] theorem Kept.cell_ {B : Nat} {w : World} (u : Kept B w) {p : Addr} (hp : p.block < B) : u.val.cell? p = w.cell? p := u.h.cell hp
@[go_sem] theorem Kept.frozen_ {B : Nat} {w : World} (u : Kept B w) {p : Addr} (hp : p.block < B) : u.val.frozen? p = w.frozen? p := u.h.frozen hp
theorem Kept.calls {B : Nat} {w : World} {P : Program} {f : FuncId} {args : Array Value} {v : Value} {u : Kept B w} (hB : B ≤ w.heap.size)
    (h : Calls P f args u.val fun e w' => e = .returned v ∧ Below u.val.heap.size u.val w') : Calls P f args u.val fun e w'' => e = .returned v ∧ ∃ u' : Kept B w, w'' = u'.val :=
  h.mono fun _ _ ⟨he, hb⟩ => ⟨he, ⟨_, u.h.trans (hb.mono (Nat.le_trans hB u.h.size))⟩, rfl⟩
theorem Kept.same {B : Nat} {w : World} {P : Program} {f : FuncId} {args : Array Value} {v : Value} {u : Kept B w}
    (h : Calls P f args u.val fun e w' => e = .returned v ∧ u.val = w') : Calls P f args u.val fun e w'' => e = .returned v ∧ ∃ u' : Kept B w, w'' = u'.val :=
  h.mono fun _ _ ⟨he, hb⟩ => ⟨he, u, hb.symm⟩
theorem wp_region_kept {P : Program} {id : Nat} {Q : Exit → Act → World → Prop} {a : Act} {w : World} {l : List Oper} (B : Nat) (w0 : World) (hm : P.follows .mixedOrders = true) (hB : Region.lexB .any l.toArray = true) (h0 : Below B w0 w)
    (h : wpQuiet P l.toArray (fun w' => ∃ u : Kept B w0, w' = u.val) (fun a' => ∀ w', (∃ u : Kept B w0, w' = u.val) → Q .normal a' w') l a) : (Code.region id l.toArray true).wp P Q a w :=
  wp_region_quiet (C := fun w' => ∃ u : Kept B w0, w' = u.val) hm hB ⟨⟨_, h0.drew⟩, rfl⟩ (by simpa using h)

/-- The slice whose address is A holds the elements xs: element k's j-th cell is 'cell xs[k] j'; all of it lies below block B. -/
def Sl {α : Type} (size : Nat) (cell : α → Nat → Value) (w : World) (B : Nat) (A : Option Addr) (xs : List α) : Prop :=
  ∀ k (h : k < xs.length), ∃ ad, A = some ad ∧ ad.block < B ∧ ∀ j, j < size → w.cell? (ad.add (k * size + j)) = some (cell xs[k] j)

section
variable {α : Type} {size : Nat} {cell : α → Nat → Value} {w w' : World} {B B' : Nat} {A : Option Addr} {xs : List α}
theorem Sl.nil_ : Sl size cell w B A ([] : List α) := fun k h => absurd h (by simp)
theorem Sl.keep (h : Sl size cell w B A xs) (hk : ∀ p : Addr, p.block < B → w'.cell? p = w.cell? p) : Sl size cell w' B A xs := fun k hlt => by
  obtain ⟨ad, e, hb, hc⟩ := h k hlt
  exact ⟨ad, e, hb, fun j hj => (hk _ (by rw [add_block]; exact hb)).trans (hc j hj)⟩
theorem Sl.more (h : Sl size cell w B A xs) (hB : B ≤ B') : Sl size cell w B' A xs := fun k hlt => by
  obtain ⟨ad, e, hb, hc⟩ := h k hlt
  exact ⟨ad, e, by omega, hc⟩
theorem Sl.below (h : Sl size cell w B A xs) (hb : Below B w w') : Sl size cell w' B A xs := h.keep fun _ hp => hb.cell hp
theorem Sl.drewN (h : Sl size cell w B A xs) (n : Nat) : Sl size cell (w.drewN n) B A xs := h
theorem Sl.drew (h : Sl size cell w B A xs) : Sl size cell w.drew B A xs := h
theorem Sl.alloc (h : Sl size cell w B A xs) (hB : B ≤ w.heap.size) (o : Obj) : Sl size cell (w.alloc o) B A xs := h.keep fun p hp => World.cell?_alloc_lt w o p (by omega)
theorem Sl.setCell (h : Sl size cell w B A xs) {p : Addr} (hB : B ≤ p.block) (u : Value) : Sl size cell (w.setCell p u) B A xs :=
  h.keep fun q hq => World.cell?_setCell_other w p q u (fun e => by subst e; omega)
theorem Sl.grown (h : Sl size cell w B A xs) {row : Option Nat} (hg : w.grownBy w' row) (hB : B ≤ w.heap.size) (hr : ∀ g, row = some g → B ≤ g) : Sl size cell w' B A xs :=
  h.keep fun p hp => World.cell?_of_block (hg.block p.block (by omega) (fun e => by have := hr _ e.symm; omega))

/-- The flat cells of a list of elements. -/
def flat (size : Nat) (cell : α → Nat → Value) (xs : List α) : List Value := xs.flatMap fun x => (List.range size).map (cell x)
theorem flat_nil : flat size cell ([] : List α) = [] := rfl
theorem flat_append (ys : List α) : flat size cell (xs ++ ys) = flat size cell xs ++ flat size cell ys := by simp [flat]
theorem flat_one (x : α) : flat size cell [x] = (List.range size).map (cell x) := by simp [flat]
theorem flat_length : (flat size cell xs).length = xs.length * size := by
  induction xs with
  | nil => simp [flat]
  | cons x xs ih =>
    have : flat size cell (x :: xs) = (List.range size).map (cell x) ++ flat size cell xs := by simp [flat]
    rw [this, List.length_append, ih]; simp [Nat.add_mul]; omega
theorem flat_at {k j : Nat} (hk : k < xs.length) (hj : j < size) : (flat size cell xs)[k * size + j]? = some (cell xs[k] j) := by
  induction xs generalizing k with
  | nil => simp at hk
  | cons x xs ih =>
    have e : flat size cell (x :: xs) = (List.range size).map (cell x) ++ flat size cell xs := by simp [flat]
    rw [e]
    cases k with
    | zero => rw [List.getElem?_append_left (by simp; omega)]; simp [hj]
    | succ k =>
      rw [List.getElem?_append_right (by simp [Nat.succ_mul]; omega)]
      have : (k + 1) * size + j - ((List.range size).map (cell x)).length = k * size + j := by simp [Nat.succ_mul]; omega
      rw [this, ih (by simpa using hk)]; simp

theorem Sl.of_own {base : Nat} {e : TypeId} {n c : Nat} (hs : 0 < size) (h : w.ownsRow base e size (.slice A n c) n (flat size cell xs)) : Sl size cell w w.heap.size A xs := by
  intro k hk
  have hn : n * size = xs.length * size := by rw [← h.1, flat_length]
  have hnl : n = xs.length := Nat.eq_of_mul_eq_mul_right hs hn
  subst hnl
  obtain ⟨g, cap, hv, _, hlt⟩ := h.form (by omega)
  have hA : A = some ⟨g, 0, none⟩ := by injection hv
  subst hA
  exact ⟨_, rfl, hlt, fun j hj => h.cells (g := g) rfl _ _ (flat_at hk hj)⟩

/-- The first cell of an element, and the cells behind it, at the addresses that the walk writes. -/
theorem Sl.at0 {k : Nat} (h : Sl size cell w B A xs) (hs : 0 < size) (hk : k < xs.length) : ∃ ad, A = some ad ∧ ad.block < B ∧ w.cell? (ad.add (k * size)) = some (cell xs[k] 0) ∧ ∀ j, j < size → w.cell? (ad.add (k * size + j)) = some (cell xs[k] j) := by
  obtain ⟨ad, e, hb, hc⟩ := h k hk
  exact ⟨ad, e, hb, hc 0 hs, hc⟩
end
/-- An element's cells at the addresses that the walk writes. -/
theorem Sl.sp {α : Type} {size : Nat} {cell : α → Nat → Value} {w : World} {B : Nat} {A : Option Addr} {xs : List α} {k : Nat} (h : Sl size cell w B A xs) (hs : 0 < size) (hk : k < xs.length) :
    ∃ ad, A = some ad ∧ (ad.add (k * size)).block < B ∧ w.cell? (ad.add (k * size)) = some (cell xs[k] 0) ∧ ∀ j, 0 < j → j < size → w.cell? ⟨(ad.add (k * size)).block, (ad.add (k * size)).off + j, none⟩ = some (cell xs[k] j) := by
  obtain ⟨ad, e, hb, hc⟩ := h k hk
  refine ⟨ad, e, by rw [add_block]; exact hb, hc 0 hs, fun j h0 hj => ?_⟩
  have e1 : (ad.add (k * size)).add j = ⟨(ad.add (k * size)).block, (ad.add (k * size)).off + j, none⟩ := by
    rw [Addr.add, if_neg (by omega)]
  rw [← e1, add_add]
  exact hc j hj
/-- A cell that holds an int. -/
def icell (x : Int) (_ : Nat) : Value := .int .i64 x
theorem Sl.int_at {w : World} {B : Nat} {A : Option Addr} {xs : List Int} {k : Nat} (h : Sl 1 icell w B A xs) (hk : k < xs.length) : ∃ ad, A = some ad ∧ ad.block < B ∧ w.cell? (ad.add k) = some (.int .i64 xs[k]) := by
  obtain ⟨ad, e, hb, hc⟩ := h k hk
  exact ⟨ad, e, hb, by simpa [icell] using hc 0 (by omega)⟩

theorem grown_alloc {w : World} {row : Option Nat} {w' : World} {o : Obj} (h : (w.alloc o).grownBy w' row) : w.grownBy w' row :=
  ⟨h.os, h.tape, h.output, Nat.le_trans (by simp) h.size, fun k hk hne => (h.block k (by simp; omega) hne).trans (Below.heap_alloc w o k hk)⟩

/-- 'append(out, y)' onto a row of the call's own: the one new element stands in the block that was just made. -/
theorem wpList_push {α : Type} {P : Program} {size : Nat} {cell : α → Nat → Value} {w w0 : World} {ops : Array Oper} {rest : List Oper} {o : Oper} {a : Act} {Q : Exit → Act → World → Prop} (hgd : o.guard = none) (s x : Operand) (t : TypeId)
    (ho : o.op = .call { callee := .builtin .append, args := #[s, x], argTypes := #[t, t] })
    (base B : Nat) (e : TypeId) (i : TypeInfo) (z : Value) (bytes : Nat) (ht : P.underlying t = some (.slice e)) (hi : P.info? e = some i) (hz : i.zero = some z)
    (hsize : i.size = size) (hby : i.bytes = bytes) (hzs : z.cells.size = size) (hsz : 0 < size)
    (v : Value) (n : Nat) (xs : List α) (y : α) (hs : a.eval s = v) (hown : w.ownsRow base e size v n (flat size cell xs))
    (cs : Array Value) (te : TypeId) (hcs : cs.toList = (List.range size).map (cell y)) (c : Nat) (hx : a.eval x = .slice (some ⟨w.heap.size, 0, none⟩) 1 c) (h1 : ∀ j, (cell y j).oneCell' = true)
    (h63 : n + 1 ≤ maxLen) (hbytes : (n + 1) * bytes ≤ 140737488355328) (hbase : base ≤ w.heap.size) (hBb : B ≤ base) (hB : Below B w0 w)
    (h : ∀ v' w', w'.ownsRow base e size v' (n + 1) (flat size cell (xs ++ [y])) → Below B w0 w' → w.grownBy w' v.ownBlock → wpList P ops Q rest (a.put o.dst v') w') : wpList P ops Q (o :: rest) a (w.alloc (.cells cs te)) := by
  refine wpList_append_own (P := P) (w := w.alloc (.cells cs te)) hgd s x t ho base e i z size bytes ht hi hz hsize hby hzs hsz v n (flat size cell xs) hs (hown.alloc _) ⟨w.heap.size, 0, none⟩ 1 c cs.toList hx (by rw [hcs]; simp) ?_ ?_ h63 hbytes (by simp; omega) ?_
  · intro j u hj
    have hb : (w.alloc (.cells cs te)).heap[w.heap.size]? = some (.cells cs te (0, 0)) := heap_alloc_new w _
    have e1 : (⟨w.heap.size, 0, none⟩ : Addr).add j = ⟨w.heap.size, j, none⟩ := by unfold Addr.add; split <;> simp_all
    rw [e1, cell_of_row _ _ _ _ _ _ hb]
    simpa using hj
  · intro u hu
    rw [hcs] at hu
    obtain ⟨j, _, rfl⟩ := List.mem_map.1 hu
    exact h1 j
  · intro v' w' ho' hg _
    have hg' := grown_alloc hg
    refine h v' w' (by rw [flat_append, flat_one, ← hcs]; exact ho') (hB.grown hg' (by omega) fun k hk => ?_) hg'
    have := (hown.lt k hk).1
    omega

theorem ownsRow_drewN {w : World} {base : Nat} {e : TypeId} {size : Nat} {v : Value} {n : Nat} {xs : List Value} (h : w.ownsRow base e size v n xs) (k : Nat) : (w.drewN k).ownsRow base e size v n xs := h
theorem own_nil (w : World) (base : Nat) (e : TypeId) {α : Type} (size : Nat) (cell : α → Nat → Value) : w.ownsRow base e size (.slice none 0 0) 0 (flat size cell ([] : List α)) := ⟨by simp [flat], .inl ⟨rfl, rfl⟩⟩

theorem own_slice {α : Type} {size : Nat} {cell : α → Nat → Value} {w : World} {base : Nat} {e : TypeId} {v : Value} {n : Nat} {xs : List α} (hs : 0 < size) (h : w.ownsRow base e size v n (flat size cell xs)) :
    ∃ A c, v = .slice A xs.length c ∧ Sl size cell w w.heap.size A xs := by
  have hn : n * size = xs.length * size := by rw [← h.1, flat_length]
  have hnl : n = xs.length := Nat.eq_of_mul_eq_mul_right hs hn
  subst hnl
  rcases h.2 with ⟨rfl, h0⟩ | ⟨g, cap, cur, rfl, _, _⟩
  · refine ⟨none, 0, by rw [h0], ?_⟩
    have : xs = [] := List.eq_nil_of_length_eq_zero h0
    subst this
    exact Sl.nil_
  · exact ⟨_, cap, rfl, Sl.of_own hs h⟩

/-- A call that returns a list and an error number. -/
def RetL {α : Type} (size : Nat) (cell : α → Nat → Value) (w : World) (xs : List α) (err : Int) (e : Ending) (w' : World) : Prop :=
  ∃ A c, e = .returned (.tuple #[.slice A xs.length c, .int .i64 err]) ∧ Sl size cell w' w'.heap.size A xs ∧ Below w.heap.size w w'
/-- A call that returns a list. -/
def RetS {α : Type} (size : Nat) (cell : α → Nat → Value) (w : World) (xs : List α) (e : Ending) (w' : World) : Prop :=
  ∃ A c, e = .returned (.slice A xs.length c) ∧ Sl size cell w' w'.heap.size A xs ∧ Below w.heap.size w w'
theorem RetL.of {α : Type} {size : Nat} {cell : α → Nat → Value} {w w' : World} {xs : List α} {err : Int} {base : Nat} {t : TypeId} {v : Value} {n : Nat} (hs : 0 < size) (h : w'.ownsRow base t size v n (flat size cell xs)) (hB : Below w.heap.size w w') :
    RetL size cell w xs err (.returned (.tuple #[v, .int .i64 err])) w' := by
  obtain ⟨A, c, rfl, hS⟩ := own_slice hs h
  exact ⟨A, c, rfl, hS, hB⟩
theorem RetL.none {α : Type} {size : Nat} {cell : α → Nat → Value} {w w' : World} {err : Int} (hB : Below w.heap.size w w') :
    RetL size cell w ([] : List α) err (.returned (.tuple #[.slice none 0 0, .int .i64 err])) w' := ⟨_, _, rfl, Sl.nil_, hB⟩

section
variable {α : Type} {size : Nat} {cell : α → Nat → Value} {xs : List α}
theorem flat_div {i : Nat} (hs : 0 < size) (hi : i < xs.length * size) : ∃ h : i / size < xs.length, (flat size cell xs)[i]? = some (cell (xs[i / size]'h) (i % size)) := by
  have h : i / size < xs.length := (Nat.div_lt_iff_lt_mul hs).2 hi
  refine ⟨h, ?_⟩
  have := flat_at (cell := cell) (j := i % size) h (Nat.mod_lt _ hs)
  rwa [Nat.mul_comm, Nat.div_add_mod] at this
theorem flat_ext (hs : 0 < size) {l : List Value} (hl : l.length = xs.length * size) (h : ∀ k (hk : k < xs.length) j, j < size → l[k * size + j]? = some (cell xs[k] j)) : l = flat size cell xs := by
  apply List.ext_getElem?
  intro i
  by_cases hi : i < xs.length * size
  · obtain ⟨hd, e⟩ := flat_div (cell := cell) hs hi
    rw [e]
    have := h (i / size) hd (i % size) (Nat.mod_lt _ hs)
    rwa [Nat.mul_comm, Nat.div_add_mod] at this
  · rw [List.getElem?_eq_none (by omega), List.getElem?_eq_none (by rw [flat_length]; omega)]
theorem idx_inj {k k' j j' : Nat} (hj : j < size) (hj' : j' < size) (h : k * size + j = k' * size + j') : k = k' ∧ j = j' := by
  have h1 : (k * size + j) / size = k := by rw [Nat.mul_comm, Nat.mul_add_div (by omega), Nat.div_eq_of_lt hj]; simp
  have h2 : (k' * size + j') / size = k' := by rw [Nat.mul_comm, Nat.mul_add_div (by omega), Nat.div_eq_of_lt hj']; simp
  have : k = k' := by rw [← h1, ← h2, h]
  subst this
  exact ⟨rfl, by omega⟩
/-- One cell of one element is stored. -/
theorem flat_set {k j : Nat} (hk : k < xs.length) (hj : j < size) {y : α} {u : Value} (h1 : cell y j = u) (h2 : ∀ j', j' < size → j' ≠ j → cell y j' = cell xs[k] j') :
    (flat size cell xs).set (k * size + j) u = flat size cell (xs.set k y) := by
  refine flat_ext (by omega) (by rw [List.length_set, flat_length, List.length_set]) fun k' hk' j' hj' => ?_
  have hk2 : k' < xs.length := by simpa using hk'
  by_cases e : k = k'
  · subst e
    rw [List.getElem_set_self]
    by_cases e2 : j = j'
    · subst e2
      rw [List.getElem?_set_self, h1]
      rw [flat_length]
      have : (k + 1) * size ≤ xs.length * size := Nat.mul_le_mul_right _ hk
      rw [Nat.add_mul] at this; omega
    · rw [List.getElem?_set_ne (by omega), flat_at hk hj', h2 j' hj' (fun h => e2 h.symm)]
  · rw [List.getElem?_set_ne (fun h => e (idx_inj hj hj' h).1), flat_at hk2 hj', List.getElem_set_ne e]
/-- A made row: every element is the zero element. -/
theorem made_flat {x0 : α} (hs : 0 < size) (z : Array Value) (hz : z.toList = (List.range size).map (cell x0)) (n : Nat) : (madeCells z (n * size)).toList = flat size cell (List.replicate n x0) := by
  have hsz : z.size = size := by rw [← Array.length_toList, hz]; simp
  refine flat_ext hs (by simp [madeCells]) fun k hk j hj => ?_
  have hk' : k < n := by simpa using hk
  have hlt : k * size + j < n * size := by
    have : (k + 1) * size ≤ n * size := Nat.mul_le_mul_right _ hk'
    rw [Nat.add_mul] at this; omega
  have hm : (k * size + j) % size = j := by rw [Nat.mul_comm, Nat.mul_add_mod]; exact Nat.mod_eq_of_lt hj
  have hzj : z[j]! = cell x0 j := by
    rw [getElem!_pos z j (by omega), ← Array.getElem_toList]
    simp [hz]
  simp [madeCells, hlt, hsz, hm, hzj]
end

/-- The first k elements mapped by h, the others by f. -/
def mixTo {α β : Type} (h f : α → β) (xs : List α) (k : Nat) : List β := (xs.take k).map h ++ (xs.drop k).map f
section
variable {α β : Type} {h f : α → β} {xs : List α} {k : Nat}
theorem mixTo_zero : mixTo h f xs 0 = xs.map f := by simp [mixTo]
theorem mixTo_all : mixTo h f xs xs.length = xs.map h := by simp [mixTo]
theorem mixTo_length : (mixTo h f xs k).length = xs.length := by simp [mixTo]; omega
theorem mixTo_at (hk : k < xs.length) (hk' : k < (mixTo h f xs k).length) : (mixTo h f xs k)[k] = f xs[k] := by
  simp [mixTo, Nat.min_eq_left (Nat.le_of_lt hk)]
theorem mixTo_succ (hk : k < xs.length) : (mixTo h f xs k).set k (h xs[k]) = mixTo h f xs (k + 1) := by
  unfold mixTo
  have e : (xs.drop k).map f = f xs[k] :: (xs.drop (k + 1)).map f := by rw [List.drop_eq_getElem_cons hk, List.map_cons]
  rw [e, List.take_succ_eq_append_getElem hk, List.map_append, List.set_append_right]
  · simp [Nat.min_eq_left (Nat.le_of_lt hk)]
  · simp; omega
end
theorem own_below {w w' : World} {base : Nat} {e : TypeId} {size : Nat} {v : Value} {n : Nat} {xs : List Value} (h : w.ownsRow base e size v n xs) (hb : Below w.heap.size w w') : w'.ownsRow base e size v n xs := by
  refine h.kept (row := none) ⟨hb.os, hb.tape, hb.output, hb.size, fun k hk _ => hb.block k hk⟩ ?_
  cases hv : v.ownBlock
  · exact .inl rfl
  · exact .inr (by simp)
/-- The cells of an element of an owned row, and that they may be written. -/
theorem own_at {α : Type} {size : Nat} {cell : α → Nat → Value} {w : World} {base : Nat} {e : TypeId} {g n cap : Nat} {xs : List α} (h : w.ownsRow base e size (.slice (some ⟨g, 0, none⟩) n cap) n (flat size cell xs)) {k j : Nat} (hk : k < xs.length) (hj : j < size) :
    w.cell? ⟨g, k * size + j, none⟩ = some (cell xs[k] j) ∧ w.frozen? ⟨g, k * size + j, none⟩ = false := by
  refine ⟨?_, h.frozenAt _⟩
  have hn : n * size = xs.length * size := by rw [← h.1, flat_length]
  have hlt : k * size + j < n * size := by
    have : (k + 1) * size ≤ xs.length * size := Nat.mul_le_mul_right _ hk
    rw [Nat.add_mul] at this; omega
  rw [h.cellAt _ hlt, flat_at hk hj]
theorem own_lt {w : World} {base : Nat} {e : TypeId} {size g n cap : Nat} {xs : List Value} (h : w.ownsRow base e size (.slice (some ⟨g, 0, none⟩) n cap) n xs) : base ≤ g ∧ g < w.heap.size := h.lt g rfl
/-- One cell of one element of an owned row is stored. -/
theorem own_set {α : Type} {size : Nat} {cell : α → Nat → Value} {w : World} {base : Nat} {e : TypeId} {g n cap : Nat} {xs : List α} (h : w.ownsRow base e size (.slice (some ⟨g, 0, none⟩) n cap) n (flat size cell xs)) {k j : Nat} (hk : k < xs.length) (hj : j < size) {y : α} {u : Value}
    (h1 : cell y j = u) (h2 : ∀ j', j' < size → j' ≠ j → cell y j' = cell xs[k] j') : (w.setCell ⟨g, k * size + j, none⟩ u).ownsRow base e size (.slice (some ⟨g, 0, none⟩) n cap) n (flat size cell (xs.set k y)) := by
  rw [← flat_set hk hj h1 h2]
  exact (h.stored _ u).1

/-- A slice over a block that was just made. -/
theorem Sl.of_new {α : Type} {size : Nat} {cell : α → Nat → Value} {w : World} {cs : Array Value} {t : TypeId} {xs : List α} (h : cs.toList = flat size cell xs) :
    Sl size cell (w.alloc (.cells cs t)) (w.alloc (.cells cs t)).heap.size (some ⟨w.heap.size, 0, none⟩) xs := by
  intro k hk
  refine ⟨_, rfl, by simp, fun j hj => ?_⟩
  have hb : (w.alloc (.cells cs t)).heap[w.heap.size]? = some (.cells cs t (0, 0)) := heap_alloc_new w _
  have e1 : (⟨w.heap.size, 0, none⟩ : Addr).add (k * size + j) = ⟨w.heap.size, k * size + j, none⟩ := by unfold Addr.add; split <;> simp_all
  rw [e1, cell_of_row _ _ _ _ _ _ hb, ← Array.getElem?_toList, h, flat_at hk hj]

section
variable {P : Program} (w : World)
theorem run_append_nil (base : Nat) (t ty e : TypeId) (i : TypeInfo) (size : Nat) (ht : P.underlying t = some (.slice e)) (hi : P.info? e = some i)
    (v : Value) (n : Nat) (xs : List Value) (hown : w.ownsRow base e size v n xs) (c : Nat) : (Builtin.append_ #[t, t] ty #[v, .slice none 0 c]).run P w = .ok v w := by
  rcases hown.2 with ⟨rfl, rfl⟩ | ⟨g, cap, cur, rfl, _, _, hnc, _⟩
  · simp [Builtin.append_, run_underlying ht, sizeOf, typeInfo, hi, Builtin.lenOf, Builtin.firstCells]
  · simp [Builtin.append_, run_underlying ht, sizeOf, typeInfo, hi, Builtin.lenOf, Builtin.firstCells, hnc, storeCells]

/-- 'append(out, src...)' onto a row of the call's own: the source reads as a list, nil let in. -/
theorem run_append_sl {α : Type} {size : Nat} {cell : α → Nat → Value} (base : Nat) (t ty e : TypeId) (i : TypeInfo) (z : Value) (bytes : Nat) (ht : P.underlying t = some (.slice e)) (hi : P.info? e = some i) (hz : i.zero = some z)
    (hsize : i.size = size) (hby : i.bytes = bytes) (hzs : z.cells.size = size) (hsz : 0 < size)
    (v : Value) (n : Nat) (xs : List α) (hown : w.ownsRow base e size v n (flat size cell xs))
    (B : Nat) (A : Option Addr) (c : Nat) (ys : List α) (hr : Sl size cell w B A ys) (h1 : ∀ y j, (cell y j).oneCell' = true)
    (h63 : n + ys.length ≤ maxLen) (hbytes : (n + ys.length) * bytes ≤ 140737488355328) (hbase : base ≤ w.heap.size) :
    ∃ v' w', (Builtin.append_ #[t, t] ty #[v, .slice A ys.length c]).run P w = .ok v' w' ∧ w'.ownsRow base e size v' (n + ys.length) (flat size cell (xs ++ ys)) ∧ w.grownBy w' v.ownBlock := by
  rcases A with _ | ad
  · have hm : ys = [] := by
      cases ys with
      | nil => rfl
      | cons y ys => obtain ⟨ad, h, _⟩ := hr 0 (by simp); cases h
    subst hm
    exact ⟨v, w, run_append_nil w base t ty e i size ht hi v n _ hown c, by simpa using hown, World.grownBy.refl w _⟩
  · have hcells : ∀ j u, (flat size cell ys)[j]? = some u → w.cell? (ad.add j) = some u := by
      intro j u hu
      have hj : j < ys.length * size := by
        rw [← flat_length (cell := cell)]
        exact (List.getElem?_eq_some_iff.1 hu).1
      obtain ⟨hd, e2⟩ := flat_div (cell := cell) hsz hj
      obtain ⟨ad', h, _, hc⟩ := hr (j / size) hd
      injection h with h
      subst h
      have := hc (j % size) (Nat.mod_lt _ hsz)
      rw [Nat.mul_comm, Nat.div_add_mod] at this
      rw [this, ← e2, hu]
    obtain ⟨v', w', hrun, h2, h3, _, _⟩ := run_append_own_at (P := P) w base t ty e i z size bytes ht hi hz hsize hby hzs hsz v n _ hown ad ys.length c (flat size cell ys) flat_length hcells (by
      intro u hu
      obtain ⟨y, _, hy⟩ := List.mem_flatMap.1 hu
      obtain ⟨j, _, rfl⟩ := List.mem_map.1 hy
      exact h1 y j) h63 hbytes hbase
    exact ⟨v', w', hrun, by rw [flat_append]; exact h2, h3⟩

theorem wpList_append_sl {α : Type} {size : Nat} {cell : α → Nat → Value} {w0 : World} {ops : Array Oper} {rest : List Oper} {o : Oper} {a : Act} {Q : Exit → Act → World → Prop} (hgd : o.guard = none) (s x : Operand) (t : TypeId)
    (ho : o.op = .call { callee := .builtin .append, args := #[s, x], argTypes := #[t, t] })
    (base B0 : Nat) (e : TypeId) (i : TypeInfo) (z : Value) (bytes : Nat) (ht : P.underlying t = some (.slice e)) (hi : P.info? e = some i) (hz : i.zero = some z)
    (hsize : i.size = size) (hby : i.bytes = bytes) (hzs : z.cells.size = size) (hsz : 0 < size)
    (v : Value) (n : Nat) (xs : List α) (hs : a.eval s = v) (hown : w.ownsRow base e size v n (flat size cell xs))
    (B : Nat) (A : Option Addr) (c : Nat) (ys : List α) (hx : a.eval x = .slice A ys.length c) (hr : Sl size cell w B A ys) (h1 : ∀ y j, (cell y j).oneCell' = true)
    (h63 : n + ys.length ≤ maxLen) (hbytes : (n + ys.length) * bytes ≤ 140737488355328) (hbase : base ≤ w.heap.size) (hBb : B0 ≤ base) (hB : Below B0 w0 w)
    (h : ∀ v' w', w'.ownsRow base e size v' (n + ys.length) (flat size cell (xs ++ ys)) → Below B0 w0 w' → w.grownBy w' v.ownBlock → wpList P ops Q rest (a.put o.dst v') w') : wpList P ops Q (o :: rest) a w := by
  refine wpList_plain hgd fun K hK => ?_
  obtain ⟨v', w', hrun, h2, h3⟩ := run_append_sl (P := P) w base t o.type e i z bytes ht hi hz hsize hby hzs hsz v n xs hown B A c ys hr h1 h63 hbytes hbase
  unfold Oper.wp execOp
  simp only [ho, resolve, invoke, builtin, Sem.run_bind, Sem.run_pure, Result.andThen_ok, List.map_toArray, List.map_cons, List.map_nil, hs, hx, hrun]
  refine hK _ _ (h v' w' h2 (hB.grown h3 (by omega) fun k hk => ?_) h3)
  have := (hown.lt k hk).1
  omega
end

/-- 'append(out, y)' as wpList_push has it; it says besides where the new row lies. -/
theorem wpList_push2 {α : Type} {P : Program} {size : Nat} {cell : α → Nat → Value} {w w0 : World} {ops : Array Oper} {rest : List Oper} {o : Oper} {a : Act} {Q : Exit → Act → World → Prop} (hgd : o.guard = none) (s x : Operand) (t : TypeId)
    (ho : o.op = .call { callee := .builtin .append, args := #[s, x], argTypes := #[t, t] })
    (base B : Nat) (e : TypeId) (i : TypeInfo) (z : Value) (bytes : Nat) (ht : P.underlying t = some (.slice e)) (hi : P.info? e = some i) (hz : i.zero = some z)
    (hsize : i.size = size) (hby : i.bytes = bytes) (hzs : z.cells.size = size) (hsz : 0 < size)
    (v : Value) (n : Nat) (xs : List α) (y : α) (hs : a.eval s = v) (hown : w.ownsRow base e size v n (flat size cell xs))
    (cs : Array Value) (te : TypeId) (hcs : cs.toList = (List.range size).map (cell y)) (c : Nat) (hx : a.eval x = .slice (some ⟨w.heap.size, 0, none⟩) 1 c) (h1 : ∀ j, (cell y j).oneCell' = true)
    (h63 : n + 1 ≤ maxLen) (hbytes : (n + 1) * bytes ≤ 140737488355328) (hbase : base ≤ w.heap.size) (hBb : B ≤ base) (hB : Below B w0 w)
    (h : ∀ v' w', w'.ownsRow base e size v' (n + 1) (flat size cell (xs ++ [y])) → Below B w0 w' → w.grownBy w' v.ownBlock → (∀ b, v'.ownBlock = some b → v.ownBlock = some b ∨ w.heap.size ≤ b) → wpList P ops Q rest (a.put o.dst v') w') : wpList P ops Q (o :: rest) a (w.alloc (.cells cs te)) := by
  refine wpList_plain hgd fun K hK => ?_
  obtain ⟨v', w', hrun, h2, h3, _, h5⟩ := run_append_own_at (P := P) (w.alloc (.cells cs te)) base t o.type e i z size bytes ht hi hz hsize hby hzs hsz v n (flat size cell xs) (hown.alloc _) ⟨w.heap.size, 0, none⟩ 1 c cs.toList (by rw [hcs]; simp) (by
    intro j u hj
    have hb : (w.alloc (.cells cs te)).heap[w.heap.size]? = some (.cells cs te (0, 0)) := heap_alloc_new w _
    have e1 : (⟨w.heap.size, 0, none⟩ : Addr).add j = ⟨w.heap.size, j, none⟩ := by unfold Addr.add; split <;> simp_all
    rw [e1, cell_of_row _ _ _ _ _ _ hb]
    simpa using hj) (by
    intro u hu
    rw [hcs] at hu
    obtain ⟨j, _, rfl⟩ := List.mem_map.1 hu
    exact h1 j) h63 hbytes (by simp; omega)
  unfold Oper.wp execOp
  simp only [ho, resolve, invoke, builtin, Sem.run_bind, Sem.run_pure, Result.andThen_ok, List.map_toArray, List.map_cons, List.map_nil, hs, hx, hrun]
  have hg' := grown_alloc h3
  refine hK _ _ (h v' w' (by rw [flat_append, flat_one, ← hcs]; exact h2) (hB.grown hg' (by omega) fun k hk => ?_) hg' (fun b hb => ?_))
  · have := (hown.lt k hk).1
    omega
  · rcases h5 with h5 | h5
    · exact .inl (h5 ▸ hb)
    · rw [h5] at hb
      right
      have : (w.alloc (.cells cs te)).heap.size = b := by simpa using hb
      simp at this; omega
/-- A slice elsewhere is kept where only one row has grown. -/
theorem Sl.grownFar {α : Type} {size : Nat} {cell : α → Nat → Value} {w w' : World} {A : Option Addr} {xs : List α} {row : Option Nat} (h : Sl size cell w w.heap.size A xs) (hg : w.grownBy w' row) (hne : ∀ ad, A = some ad → 0 < xs.length → row ≠ some ad.block) : Sl size cell w' w'.heap.size A xs := by
  intro k hk
  obtain ⟨ad, e, hb, hc⟩ := h k hk
  refine ⟨ad, e, Nat.lt_of_lt_of_le hb hg.size, fun j hj => ?_⟩
  rw [World.cell?_of_block (hg.block (ad.add (k * size + j)).block (by rw [add_block]; exact hb) (fun h' => hne ad e (by omega) (by rw [add_block] at h'; exact h'.symm)))]
  exact hc j hj
end Go.Proofs.YtihepapjopcagaaGreatDoor
end

/- A region that draws its order: a head of quiet operations in any order, then a tail in one forced order. -/
section
namespace Go.Proofs.YtihepapjopcagaaGreatDoor
open Go Go.RowKit

section
variable {P : Program} {ops : Array Oper} {md : Region.Mode} {C : World → Prop}

/-- Whatever order is picked, f operations of the head come up, then L holds. -/
def anyT (P : Program) (md : Region.Mode) (ops : Array Oper) (C : World → Prop) (n : Nat) (L : Array Bool → Act → Prop) : Nat → Array Bool → Act → Prop
  | 0, ls, a => L ls a
  | f + 1, ls, a => Region.ready md ops ls ≠ [] ∧ ∀ i ∈ Region.ready md ops ls, i < n ∧ qOp P ops C i (anyT P md ops C n L f (ls.setIfInBounds i true)) a

theorem anyT_any {n g : Nat} {L : Array Bool → Act → Prop} {Q : Exit → Act → World → Prop} (hL : ∀ ls a w, C w → L ls a → wpAny P md ops Q g ls a w) :
    ∀ (f : Nat) (ls : Array Bool) (a : Act) (w : World), C w → anyT P md ops C n L f ls a → wpAny P md ops Q (f + g) ls a w
  | 0, _, _, _, hw, h => by rw [Nat.zero_add]; exact hL _ _ _ hw h
  | f + 1, _, _, _, hw, h => by
    rw [show f + 1 + g = (f + g) + 1 by omega]
    exact ⟨fun h0 => absurd h0 h.1, fun i hi => wpOp_of_qOp hw (fun a' w' hw' h' => anyT_any hL f _ a' w' hw' h') (h.2 i hi).2⟩

/-- Every operation of the head from k on is waited for, by one behind it, up to the tail's first one. -/
def sinkFrom (md : Region.Mode) (ops : Array Oper) (k n : Nat) : Bool :=
  (List.range n).all fun i => decide (i < k) || (List.range (n + 1)).any fun j => decide (i < j) && Region.waitsFor md ops j i
def closedB (md : Region.Mode) (ops : Array Oper) (n : Nat) (ls : Array Bool) : Bool :=
  decide (ls.size = ops.size) && ((List.range ops.size).all fun j => match ops[j]? with | some oj => !ls.getD j false || oj.after.all (fun e => !Region.binds md e || ls.getD e.on false) | none => true) &&
  (List.range ops.size).all fun t => decide (t < n) || !ls.getD t true
theorem headInv_of {n : Nat} {ls : Array Bool} (h : closedB md ops n ls = true) : HeadInv md ops n ls := by
  simp only [closedB, Bool.and_eq_true, decide_eq_true_eq] at h
  obtain ⟨⟨h1, h2⟩, h3⟩ := h
  refine ⟨h1, fun j oj hj hl e he hb => ?_, fun t ht ht' => ?_⟩
  · have hjl : j < ops.size := (Array.getElem?_eq_some_iff.1 hj).1
    have := List.all_eq_true.1 h2 j (List.mem_range.2 hjl)
    simp only [hj, hl, Bool.not_true, Bool.false_or] at this
    have := Array.all_eq_true'.1 this e he
    simpa [hb] using this
  · have := List.all_eq_true.1 h3 t (List.mem_range.2 ht')
    rw [Bool.or_eq_true] at this
    rcases this with h | h
    · simp at h; omega
    · simpa using h

theorem tail_waits2 {k n : Nat} {ls : Array Bool} (hs : sinkFrom md ops k n = true) (hc : Region.chainB md ops n = true) (hn : n < ops.size) (inv : HeadInv md ops n ls) :
    ∀ (d i : Nat), n - i = d → i < n → k ≤ i → ls.getD i true = false → ∀ t, n ≤ t → t ∉ Region.ready md ops ls := by
  intro d
  induction d using Nat.strongRecOn with
  | _ d ih =>
    intro i hd hi hki hun t ht hr
    obtain ⟨_, ot, hot, hall⟩ := mem_ready.1 hr
    have htlt : t < ops.size := (Array.getElem?_eq_some_iff.1 hot).1
    by_cases htn : t = n
    · subst htn
      have h1 := List.all_eq_true.1 hs i (List.mem_range.2 hi)
      rw [Bool.or_eq_true] at h1
      rcases h1 with h1 | h1
      · simp at h1; omega
      obtain ⟨j, hj, hj2⟩ := List.any_eq_true.1 h1
      simp only [Bool.and_eq_true, decide_eq_true_eq] at hj2
      obtain ⟨oj, hoj, e, he, hb, hon⟩ := Region.waitsFor_spec hj2.2
      have hjle : j ≤ t := by have := List.mem_range.1 hj; omega
      by_cases hjt : j = t
      · subst hjt
        obtain rfl : oj = ot := Option.some.inj (hoj.symm.trans hot)
        have h2 := hall e he hb
        rw [hon, getD_both hun] at h2
        cases h2
      · cases hl : ls.getD j false with
        | true =>
          have h2 := inv.closed j oj hoj hl e he hb
          rw [hon, getD_both hun] at h2
          cases h2
        | false =>
          have hjs : j < ls.size := by rw [inv.size]; omega
          exact ih (t - j) (by omega) j rfl (by omega) (by omega) (getD_in hjs hl) t (Nat.le_refl _) hr
    · have h1 := List.all_eq_true.1 hc t (List.mem_range.2 htlt)
      simp only [Bool.or_eq_true, decide_eq_true_eq] at h1
      rcases h1 with h1 | h1
      · omega
      · obtain ⟨o', ho', e, he, hb, hon⟩ := Region.waitsFor_spec h1
        obtain rfl : o' = ot := Option.some.inj (ho'.symm.trans hot)
        have h2 := hall e he hb
        rw [hon, getD_both (inv.tail (t - 1) (by omega) (by omega))] at h2
        cases h2

theorem anyT_first {k0 n i : Nat} {oi : Oper} {v : Value} {L : Array Bool → Act → Prop} (hi : ops[i]? = some oi) (hsel : ∀ (j : Nat) (o : Oper) cs b, ops[j]? = some o → o.op ≠ .select cs b)
    (hs : sinkFrom md ops k0 n = true) (hc : Region.chainB md ops n = true) (hn : n < ops.size) (hin : i < n) (hki0 : k0 ≤ i) (hdone : ∀ ls a, L ls a → ∀ j ∈ Region.ready md ops ls, n ≤ j) :
    ∀ (f : Nat) (ls : Array Bool) (a : Act), HeadInv md ops n ls →
      (∀ j oj, ops[j]? = some oj → j ≠ i → ls.getD j true = false → (∀ e ∈ oj.after, Region.binds md e = true → e.on ≠ i) → oi.apart ops oj = true) →
      i ∈ Region.ready md ops ls → YieldsIn P ops C oi v a →
      anyT P md ops C n L f (ls.setIfInBounds i true) (a.put oi.dst v) → anyT P md ops C n L (f + 1) ls a := by
  intro f
  induction f with
  | zero =>
    intro ls a inv _ hr hy H
    have hun := (mem_ready.1 hr).1
    refine ⟨List.ne_nil_of_mem hr, fun j hj => ?_⟩
    have hjn : j < n := Nat.lt_of_not_le fun h => tail_waits2 hs hc hn inv _ i rfl hin hki0 hun j h hj
    refine ⟨hjn, ?_⟩
    by_cases hji : j = i
    · subst hji; exact hy.qOp hi H
    · have := hdone _ _ H j (ready_mono hj hji)
      omega
  | succ f ih =>
    intro ls a inv hfree hr hy H
    have hun := (mem_ready.1 hr).1
    refine ⟨List.ne_nil_of_mem hr, fun j hj => ?_⟩
    have hjn : j < n := Nat.lt_of_not_le fun h => tail_waits2 hs hc hn inv _ i rfl hin hki0 hun j h hj
    refine ⟨hjn, ?_⟩
    by_cases hji : j = i
    · subst hji; exact hy.qOp hi H
    · obtain ⟨hjun, oj, hoj, hall⟩ := mem_ready.1 hj
      have hnot : ∀ e ∈ oj.after, Region.binds md e = true → e.on ≠ i := fun e he hb heq => by
        have h1 := hall e he hb
        rw [heq, getD_both hun] at h1
        cases h1
      have h2 := qOp_put hoj (hfree j oj hoj hji hjun hnot) (fun cs b => hsel i oi cs b hi) (fun cs b => hsel j oj cs b hoj) hy (H.2 j (ready_mono hj hji)).2
      refine qOp_mono (fun a' h3 => ih (ls.setIfInBounds j true) a' (inv.set hj hjn) (fun k ok hk hki hu hno => hfree k ok hk hki ?_ hno) (ready_mono hr (Ne.symm hji)) h3.1 ?_) h2
      · by_cases hjk : j = k
        · subst hjk; exact hjun
        · rw [getD_set_ne true hjk] at hu; exact hu
      · rw [Array.setIfInBounds_comm _ _ hji]
        exact h3.2

theorem anyT_lex {k0 n g : Nat} {T : Act → Prop} (hsel : Region.noSelect ops = true) (hs : sinkFrom md ops k0 n = true) (hc : Region.chainB md ops n = true) (hn : n < ops.size) :
    ∀ (l : List Oper) (k : Nat) (ls : Array Bool) (a : Act), (∀ j, j < l.length → l[j]? = ops[k + j]?) → k0 ≤ k → k + l.length = n → HeadInv md ops n ls →
    Region.lexHead md ops g l.length k ls = true → wpQuiet P ops C T l a → anyT P md ops C n (fun ls' a' => Region.seqB md ops g n ls' = true ∧ T a') l.length ls a
  | [], k, ls, a, _, _, hk, _, hB, h => by
    obtain rfl : k = n := by simpa using hk
    exact ⟨by simpa [Region.lexHead] using hB, h⟩
  | o :: l, k, ls, a, hl, hk0, hk, inv, hB, h => by
    have h0 : ops[k]? = some o := by simpa using (hl 0 (by simp)).symm
    simp only [List.length_cons, Region.lexHead, Bool.and_eq_true] at hB hk
    obtain ⟨⟨hr, hf⟩, hB'⟩ := hB
    have hr' : k ∈ Region.ready md ops ls := by simpa using hr
    have hst : qOp P ops C k (wpQuiet P ops C T l) a := by unfold qOp; simp only [h0]; exact h
    obtain ⟨v, hy, hK⟩ := yieldsIn_of_qOp h0 hst
    exact anyT_first h0 (Region.noSelect_spec hsel) hs hc hn (by omega) hk0 (fun ls' a' hL => seqB_ready hL.1) l.length ls a inv (Region.free_spec h0 hf) hr' hy
      (anyT_lex hsel hs hc hn l (k + 1) _ _ (fun j hj => by have := hl (j + 1) (by simp; omega); simpa [Nat.add_assoc, Nat.add_comm 1 j] using this) (by omega) (by omega) (inv.set hr' (by omega)) hB' hK)

/-- The Bool over a region whose first k operations have been taken already: the head reaches to n, then the tail is forced. -/
def tailB (ops : Array Oper) (ls : Array Bool) (k n : Nat) : Bool :=
  Region.noSelect ops && decide (n < ops.size) && decide (k ≤ n) && sinkFrom .any ops k n && Region.chainB .any ops n && closedB .any ops n ls && Region.lexHead .any ops (ops.size - n) (n - k) k ls

theorem wpAny_quiet_tail {Q : Exit → Act → World → Prop} {a : Act} {w : World} {l : List Oper} {ls : Array Bool} {F : Nat} (k n : Nat) (hB : tailB l.toArray ls k n = true) (hF : F = l.length - k) (hC : C w)
    (h : wpQuiet P l.toArray C (fun a' => ∀ w', C w' → wpList P l.toArray Q (l.drop n) a' w') ((l.take n).drop k) a) : wpAny P .any l.toArray Q F ls a w := by
  simp only [tailB, Bool.and_eq_true, decide_eq_true_eq] at hB
  obtain ⟨⟨⟨⟨⟨⟨hsel, hn⟩, hkn⟩, hs⟩, hc⟩, hcl⟩, hlex⟩ := hB
  have hn' : n < l.length := by simpa using hn
  have htl : ((l.take n).drop k).length = n - k := by simp; omega
  have hdl : (l.drop n).length = l.toArray.size - n := by simp
  have H := anyT_lex (P := P) (C := C) (md := .any) (g := l.toArray.size - n) hsel hs hc hn ((l.take n).drop k) k ls a (fun j hj => by
    rw [htl] at hj
    rw [List.getElem?_drop, List.getElem?_take_of_lt (by omega)]
    simp) (Nat.le_refl _) (by rw [htl]; omega) (headInv_of hcl) (by rw [htl]; exact hlex) h
  have := anyT_any (Q := Q) (g := l.toArray.size - n) (fun ls a' w' hw' hL => by
    have := wpAny_of_seq (md := .any) (Q' := Q) (l.drop n) n ls a' w' (fun j => by simp [List.getElem?_drop]) (by rw [hdl]; exact hL.1) (hL.2 w' hw')
    rwa [hdl] at this) _ _ _ _ hC H
  rw [htl] at this
  have e : l.toArray.size = l.length := by simp
  rw [hF, show l.length - k = n - k + (l.toArray.size - n) by omega]
  exact this

theorem wp_region_kept_tail {id : Nat} {Q : Exit → Act → World → Prop} {a : Act} {w : World} {l : List Oper} (n B : Nat) (w0 : World) (hm : P.follows .mixedOrders = true) (hB : tailB l.toArray (Array.replicate l.toArray.size false) 0 n = true) (h0 : Below B w0 w)
    (h : wpQuiet P l.toArray (fun w' => ∃ u : Kept B w0, w' = u.val) (fun a' => ∀ w', (∃ u : Kept B w0, w' = u.val) → wpList P l.toArray Q (l.drop n) a' w') ((l.take n).drop 0) a) : (Code.region id l.toArray true).wp P Q a w :=
  wp_region_any hm (wpAny_quiet_tail (C := fun w' => ∃ u : Kept B w0, w' = u.val) 0 n hB (by simp) ⟨⟨_, h0.drew⟩, rfl⟩ h)

/-- The region's first operation copies a slot (as in 'x = append(x, ..)'): it may be taken first. -/
theorem wp_region_kept_tail1 {id : Nat} {Q : Exit → Act → World → Prop} {a : Act} {w : World} {o : Oper} {l : List Oper} (n B : Nat) (w0 : World) (s : Operand) (hm : P.follows .mixedOrders = true) (hop : o.op = .move s) (hgd : o.guard = none)
    (hf : Region.free .any (o :: l).toArray (Array.replicate (o :: l).toArray.size false) 0 = true) (hr : (Region.ready .any (o :: l).toArray (Array.replicate (o :: l).toArray.size false)).contains 0 = true)
    (hB : tailB (o :: l).toArray ((Array.replicate (o :: l).toArray.size false).setIfInBounds 0 true) 1 n = true) (hQ : ∀ c a w v, Q (.panic c) (a.put o.dst v) w → Q (.panic c) a w) (h0 : Below B w0 w)
    (h : wpQuiet P (o :: l).toArray (fun w' => ∃ u : Kept B w0, w' = u.val) (fun a' => ∀ w', (∃ u : Kept B w0, w' = u.val) → wpList P (o :: l).toArray Q ((o :: l).drop n) a' w') ((o :: l).take n) a) : (Code.region id (o :: l).toArray true).wp P Q a w := by
  refine wp_region_any hm ?_
  obtain ⟨hs, hn1⟩ : Region.noSelect (o :: l).toArray = true ∧ 1 ≤ n := by
    simp only [tailB, Bool.and_eq_true, decide_eq_true_eq] at hB
    exact ⟨hB.1.1.1.1.1.1, hB.1.1.1.1.2⟩
  obtain ⟨m, rfl⟩ : ∃ m, n = m + 1 := ⟨n - 1, by omega⟩
  rw [List.take_succ_cons] at h
  have hw : ∀ t, Region.wanted o t = true := fun t => by simp [Region.wanted, hgd]
  have h2 : o.quiet P a (fun w' => ∃ u : Kept B w0, w' = u.val) (wpQuiet P (o :: l).toArray (fun w' => ∃ u : Kept B w0, w' = u.val) (fun a' => ∀ w', (∃ u : Kept B w0, w' = u.val) → wpList P (o :: l).toArray Q ((o :: l).drop (m + 1)) a' w') (l.take m)) := by
    have h3 := h
    unfold wpQuiet at h3
    rw [hw, if_pos rfl] at h3
    exact h3
  obtain ⟨v, hv, hK⟩ := h2
  have hv2 : a.eval s = v := by
    have := hv w.drew ⟨⟨_, h0.drew⟩, rfl⟩
    simp only [Oper.quietAt, execOp, hop, Sem.run_pure, Oper.quietUpon] at this
    exact this.2
  have := wpAny_take (P := P) (md := .any) (Q := Q) (i := 0) (oi := o) (v := v) (fuel := l.length) (listed := Array.replicate (o :: l).toArray.size false) (a := a) (w := w.drew) (ops := (o :: l).toArray) (by simp) hs hf hr (fun c a w => hQ c a w v) (.inl ⟨hw _, fun w => by simp [execOp, hop, hv2]⟩)
    (wpAny_quiet_tail (C := fun w' => ∃ u : Kept B w0, w' = u.val) 1 (m + 1) hB (by simp) ⟨⟨_, h0.drew⟩, rfl⟩ (by simpa using hK))
  exact this
end
end Go.Proofs.YtihepapjopcagaaGreatDoor
end
