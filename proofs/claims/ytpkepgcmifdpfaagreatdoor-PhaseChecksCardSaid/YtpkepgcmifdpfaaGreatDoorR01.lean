/- A bundle of texts: Mem, Box, Put, RegOf. -/
import Derived.WalkKit
import Derived.WalkLawsBesides
import Derived.WalkSpells
import Derived.LoopTactic
import Derived.Lib.Hide
import Derived.Outline
import Derived.Below
import Derived.Deep.QuietTactic
import Derived.BigQuiet
import Derived.BigGuardPart
import Derived.Deep.Draws
import Derived.Deep.AppendLies
import Derived.Laws.OwnMore
import Derived.OwnWalk
import Derived.Laws.Rows
import Derived.Maps.AppendAt
section
namespace Go.Proofs.YtpkepgcmifdpfaaGreatDoor
open Go Go.RowKit
theorem ret_bool {a b : Bool} (h : a = b) : Ending.returned (.bool a) = .returned (.bool b) := by rw [h]
theorem ret_int {k : IntKind} {a b : Int} (h : a = b) : Ending.returned (.int k a) = .returned (.int k b) := by rw [h]
theorem add_block (a : Addr) (n : Nat) : (a.add n).block = a.block := by unfold Addr.add; split <;> rfl
theorem add_add (a : Addr) (i j : Nat) : (a.add i).add j = a.add (i + j) := by
  unfold Addr.add
  by_cases hi : i = 0 <;> by_cases hj : j = 0 <;> simp [hi, hj, Nat.add_assoc]
theorem after {B : Nat} {w a b : World} (h : Below B w a) (hB : B ≤ a.heap.size) (k : Below a.heap.size a b) : Below B w b := h.trans (k.mono hB)
theorem after_ {w a b : World} (h : Below w.heap.size w a) (k : Below a.heap.size a b) : Below w.heap.size w b := h.trans (k.mono h.size)
structure Kept (B : Nat) (w : World) where
  val : World
  h : Below B w val
instance {B : Nat} {w : World} : Nonempty (Kept B w) := ⟨⟨w, Below.refl _ _⟩⟩
@[go_sem] theorem Kept.cell_ {B : Nat} {w : World} (u : Kept B w) {p : Addr} (hp : p.block < B) : u.val.cell? p = w.cell? p := u.h.cell hp
@[go_sem] theorem Kept.frozen_ {B : Nat} {w : World} (u : Kept B w) {p : Addr} (hp : p.block < B) : u.val.frozen? p = w.frozen? p := u.h.frozen hp
theorem Kept.calls {B : Nat} {w : World} {P : Program} {f : FuncId} {args : Array Value} {v : Value} {u : Kept B w} (hB : B ≤ w.heap.size)
    (h : Calls P f args u.val fun e w' => e = .returned v ∧ Below u.val.heap.size u.val w') : Calls P f args u.val fun e w'' => e = .returned v ∧ ∃ u' : Kept B w, w'' = u'.val :=
  h.mono fun _ _ ⟨he, hb⟩ => ⟨he, ⟨_, u.h.trans (hb.mono (Nat.le_trans hB u.h.size))⟩, rfl⟩
theorem Kept.same {B : Nat} {w : World} {P : Program} {f : FuncId} {args : Array Value} {v : Value} {u : Kept B w}
    (h : Calls P f args u.val fun e w' => e = .returned v ∧ u.val = w') : Calls P f args u.val fun e w'' => e = .returned v ∧ ∃ u' : Kept B w, w'' = u'.val :=
  h.mono fun _ _ ⟨he, hb⟩ => ⟨he, u, hb.symm⟩
theorem wp_region_kept {P : Program} {id : Nat} {Q : Exit → Act → World → Prop} {a : Act} {w : World} {l : List Oper} (B : Nat) (w0 : World) (hm : P.follows .mixedOrders = true) (hB : Region.lexB .any l.toArray = true) (h0 : Below B w0 w)
    (h : wpQuiet P l.toArray (fun w' => ∃ u : Kept B w0, w' = u.val) (fun a' => ∀ w', (∃ u : Kept B w0, w' = u.val) → Q .normal a' w') l a) : (Code.region id l.toArray true).wp P Q a w :=
  wp_region_quiet (C := fun w' => ∃ u : Kept B w0, w' = u.val) hm hB ⟨⟨_, h0.drew⟩, rfl⟩ (by simpa using h)
def Sl {α : Type} (size : Nat) (cell : α → Nat → Value) (w : World) (B : Nat) (A : Option Addr) (xs : List α) : Prop :=
  ∀ k (h : k < xs.length), ∃ ad, A = some ad ∧ ad.block < B ∧ ∀ j, j < size → w.cell? (ad.add (k * size + j)) = some (cell xs[k] j)
section
variable {α : Type} {size : Nat} {cell : α → Nat → Value} {w w' : World} {B B' : Nat} {A : Option Addr} {xs : List α}
theorem Sl.nil_ : Sl size cell w B A ([] : List α) := fun k h => absurd h (by simp)
theorem Sl.keep (h : Sl size cell w B A xs) (hk : ∀ p : Addr, p.block < B → w'.cell? p = w.cell? p) : Sl size cell w' B A xs := fun k hlt => by
  obtain ⟨ad, e, hb, hc⟩ := h k hlt
  exact ⟨ad, e, hb, fun j hj => (hk _ (by rw [add_block]; exact hb)).trans (hc j hj)⟩
theorem Sl.more (h : Sl size cell w B A xs) (hB : B ≤ B') : Sl size cell w B' A xs := fun k hlt => by
  obtain ⟨ad, e, hb, hc⟩ := h k hlt
  exact ⟨ad, e, by omega, hc⟩
theorem Sl.below (h : Sl size cell w B A xs) (hb : Below B w w') : Sl size cell w' B A xs := h.keep fun _ hp => hb.cell hp
theorem Sl.drewN (h : Sl size cell w B A xs) (n : Nat) : Sl size cell (w.drewN n) B A xs := h
theorem Sl.drew (h : Sl size cell w B A xs) : Sl size cell w.drew B A xs := h
theorem Sl.alloc (h : Sl size cell w B A xs) (hB : B ≤ w.heap.size) (o : Obj) : Sl size cell (w.alloc o) B A xs := h.keep fun p hp => World.cell?_alloc_lt w o p (by omega)
theorem Sl.setCell (h : Sl size cell w B A xs) {p : Addr} (hB : B ≤ p.block) (u : Value) : Sl size cell (w.setCell p u) B A xs :=
  h.keep fun q hq => World.cell?_setCell_other w p q u (fun e => by subst e; omega)
theorem Sl.grown (h : Sl size cell w B A xs) {row : Option Nat} (hg : w.grownBy w' row) (hB : B ≤ w.heap.size) (hr : ∀ g, row = some g → B ≤ g) : Sl size cell w' B A xs :=
  h.keep fun p hp => World.cell?_of_block (hg.block p.block (by omega) (fun e => by have := hr _ e.symm; omega))
def flat (size : Nat) (cell : α → Nat → Value) (xs : List α) : List Value := xs.flatMap fun x => (List.range size).map (cell x)
theorem flat_append (ys : List α) : flat size cell (xs ++ ys) = flat size cell xs ++ flat size cell ys := by simp [flat]
theorem flat_one (x : α) : flat size cell [x] = (List.range size).map (cell x) := by simp [flat]
theorem flat_length : (flat size cell xs).length = xs.length * size := by
  induction xs with
  | nil => simp [flat]
  | cons x xs ih =>
    have : flat size cell (x :: xs) = (List.range size).map (cell x) ++ flat size cell xs := by simp [flat]
    rw [this, List.length_append, ih]; simp [Nat.add_mul]; omega
theorem flat_at {k j : Nat} (hk : k < xs.length) (hj : j < size) : (flat size cell xs)[k * size + j]? = some (cell xs[k] j) := by
  induction xs generalizing k with
  | nil => simp at hk
  | cons x xs ih =>
    have e : flat size cell (x :: xs) = (List.range size).map (cell x) ++ flat size cell xs := by simp [flat]
    rw [e]
    cases k with
    | zero => rw [List.getElem?_append_left (by simp; omega)]; simp [hj]
    | succ k =>
      rw [List.getElem?_append_right (by simp [Nat.succ_mul]; omega)]
      have : (k + 1) * size + j - ((List.range size).map (cell x)).length = k * size + j := by simp [Nat.succ_mul]; omega
      rw [this, ih (by simpa using hk)]; simp
theorem Sl.of_own {base : Nat} {e : TypeId} {n c : Nat} (hs : 0 < size) (h : w.ownsRow base e size (.slice A n c) n (flat size cell xs)) : Sl size cell w w.heap.size A xs := by
  intro k hk
  have hn : n * size = xs.length * size := by rw [← h.1, flat_length]
  have hnl : n = xs.length := Nat.eq_of_mul_eq_mul_right hs hn
  subst hnl
  obtain ⟨g, cap, hv, _, hlt⟩ := h.form (by omega)
  have hA : A = some ⟨g, 0, none⟩ := by injection hv
  subst hA
  exact ⟨_, rfl, hlt, fun j hj => h.cells (g := g) rfl _ _ (flat_at hk hj)⟩
theorem Sl.at0 {k : Nat} (h : Sl size cell w B A xs) (hs : 0 < size) (hk : k < xs.length) : ∃ ad, A = some ad ∧ ad.block < B ∧ w.cell? (ad.add (k * size)) = some (cell xs[k] 0) ∧ ∀ j, j < size → w.cell? (ad.add (k * size + j)) = some (cell xs[k] j) := by
  obtain ⟨ad, e, hb, hc⟩ := h k hk
  exact ⟨ad, e, hb, hc 0 hs, hc⟩
end
theorem Sl.sp {α : Type} {size : Nat} {cell : α → Nat → Value} {w : World} {B : Nat} {A : Option Addr} {xs : List α} {k : Nat} (h : Sl size cell w B A xs) (hs : 0 < size) (hk : k < xs.length) :
    ∃ ad, A = some ad ∧ (ad.add (k * size)).block < B ∧ w.cell? (ad.add (k * size)) = some (cell xs[k] 0) ∧ ∀ j, 0 < j → j < size → w.cell? ⟨(ad.add (k * size)).block, (ad.add (k * size)).off + j, none⟩ = some (cell xs[k] j) := by
  obtain ⟨ad, e, hb, hc⟩ := h k hk
  refine ⟨ad, e, by rw [add_block]; exact hb, hc 0 hs, fun j h0 hj => ?_⟩
  have e1 : (ad.add (k * size)).add j = ⟨(ad.add (k * size)).block, (ad.add (k * size)).off + j, none⟩ := by
    rw [Addr.add, if_neg (by omega)]
  rw [← e1, add_add]
  exact hc j hj
def icell (x : Int) (_ : Nat) : Value := .int .i64 x
theorem Sl.int_at {w : World} {B : Nat} {A : Option Addr} {xs : List Int} {k : Nat} (h : Sl 1 icell w B A xs) (hk : k < xs.length) : ∃ ad, A = some ad ∧ ad.block < B ∧ w.cell? (ad.add k) = some (.int .i64 xs[k]) := by
  obtain ⟨ad, e, hb, hc⟩ := h k hk
  exact ⟨ad, e, hb, by simpa [icell] using hc 0 (by omega)⟩
theorem grown_alloc {w : World} {row : Option Nat} {w' : World} {o : Obj} (h : (w.alloc o).grownBy w' row) : w.grownBy w' row :=
  ⟨h.os, h.tape, h.output, Nat.le_trans (by simp) h.size, fun k hk hne => (h.block k (by simp; omega) hne).trans (Below.heap_alloc w o k hk)⟩
theorem wpList_push {α : Type} {P : Program} {size : Nat} {cell : α → Nat → Value} {w w0 : World} {ops : Array Oper} {rest : List Oper} {o : Oper} {a : Act} {Q : Exit → Act → World → Prop} (hgd : o.guard = none) (s x : Operand) (t : TypeId)
    (ho : o.op = .call { callee := .builtin .append, args := #[s, x], argTypes := #[t, t] })
    (base B : Nat) (e : TypeId) (i : TypeInfo) (z : Value) (bytes : Nat) (ht : P.underlying t = some (.slice e)) (hi : P.info? e = some i) (hz : i.zero = some z)
    (hsize : i.size = size) (hby : i.bytes = bytes) (hzs : z.cells.size = size) (hsz : 0 < size)
    (v : Value) (n : Nat) (xs : List α) (y : α) (hs : a.eval s = v) (hown : w.ownsRow base e size v n (flat size cell xs))
    (cs : Array Value) (te : TypeId) (hcs : cs.toList = (List.range size).map (cell y)) (c : Nat) (hx : a.eval x = .slice (some ⟨w.heap.size, 0, none⟩) 1 c) (h1 : ∀ j, (cell y j).oneCell' = true)
    (h63 : n + 1 ≤ maxLen) (hbytes : (n + 1) * bytes ≤ 140737488355328) (hbase : base ≤ w.heap.size) (hBb : B ≤ base) (hB : Below B w0 w)
    (h : ∀ v' w', w'.ownsRow base e size v' (n + 1) (flat size cell (xs ++ [y])) → Below B w0 w' → w.grownBy w' v.ownBlock → wpList P ops Q rest (a.put o.dst v') w') : wpList P ops Q (o :: rest) a (w.alloc (.cells cs te)) := by
  refine wpList_append_own (P := P) (w := w.alloc (.cells cs te)) hgd s x t ho base e i z size bytes ht hi hz hsize hby hzs hsz v n (flat size cell xs) hs (hown.alloc _) ⟨w.heap.size, 0, none⟩ 1 c cs.toList hx (by rw [hcs]; simp) ?_ ?_ h63 hbytes (by simp; omega) ?_
  · intro j u hj
    have hb : (w.alloc (.cells cs te)).heap[w.heap.size]? = some (.cells cs te (0, 0)) := heap_alloc_new w _
    have e1 : (⟨w.heap.size, 0, none⟩ : Addr).add j = ⟨w.heap.size, j, none⟩ := by unfold Addr.add; split <;> simp_all
    rw [e1, cell_of_row _ _ _ _ _ _ hb]
    simpa using hj
  · intro u hu
    rw [hcs] at hu
    obtain ⟨j, _, rfl⟩ := List.mem_map.1 hu
    exact h1 j
  · intro v' w' ho' hg _
    have hg' := grown_alloc hg
    refine h v' w' (by rw [flat_append, flat_one, ← hcs]; exact ho') (hB.grown hg' (by omega) fun k hk => ?_) hg'
    have := (hown.lt k hk).1
    omega
theorem ownsRow_drewN {w : World} {base : Nat} {e : TypeId} {size : Nat} {v : Value} {n : Nat} {xs : List Value} (h : w.ownsRow base e size v n xs) (k : Nat) : (w.drewN k).ownsRow base e size v n xs := h
theorem own_nil (w : World) (base : Nat) (e : TypeId) {α : Type} (size : Nat) (cell : α → Nat → Value) : w.ownsRow base e size (.slice none 0 0) 0 (flat size cell ([] : List α)) := ⟨by simp [flat], .inl ⟨rfl, rfl⟩⟩
theorem own_slice {α : Type} {size : Nat} {cell : α → Nat → Value} {w : World} {base : Nat} {e : TypeId} {v : Value} {n : Nat} {xs : List α} (hs : 0 < size) (h : w.ownsRow base e size v n (flat size cell xs)) :
    ∃ A c, v = .slice A xs.length c ∧ Sl size cell w w.heap.size A xs := by
  have hn : n * size = xs.length * size := by rw [← h.1, flat_length]
  have hnl : n = xs.length := Nat.eq_of_mul_eq_mul_right hs hn
  subst hnl
  rcases h.2 with ⟨rfl, h0⟩ | ⟨g, cap, cur, rfl, _, _⟩
  · refine ⟨none, 0, by rw [h0], ?_⟩
    have : xs = [] := List.eq_nil_of_length_eq_zero h0
    subst this
    exact Sl.nil_
  · exact ⟨_, cap, rfl, Sl.of_own hs h⟩
def RetL {α : Type} (size : Nat) (cell : α → Nat → Value) (w : World) (xs : List α) (err : Int) (e : Ending) (w' : World) : Prop :=
  ∃ A c, e = .returned (.tuple #[.slice A xs.length c, .int .i64 err]) ∧ Sl size cell w' w'.heap.size A xs ∧ Below w.heap.size w w'
def RetS {α : Type} (size : Nat) (cell : α → Nat → Value) (w : World) (xs : List α) (e : Ending) (w' : World) : Prop :=
  ∃ A c, e = .returned (.slice A xs.length c) ∧ Sl size cell w' w'.heap.size A xs ∧ Below w.heap.size w w'
theorem RetL.of {α : Type} {size : Nat} {cell : α → Nat → Value} {w w' : World} {xs : List α} {err : Int} {base : Nat} {t : TypeId} {v : Value} {n : Nat} (hs : 0 < size) (h : w'.ownsRow base t size v n (flat size cell xs)) (hB : Below w.heap.size w w') :
    RetL size cell w xs err (.returned (.tuple #[v, .int .i64 err])) w' := by
  obtain ⟨A, c, rfl, hS⟩ := own_slice hs h
  exact ⟨A, c, rfl, hS, hB⟩
theorem RetL.none {α : Type} {size : Nat} {cell : α → Nat → Value} {w w' : World} {err : Int} (hB : Below w.heap.size w w') :
    RetL size cell w ([] : List α) err (.returned (.tuple #[.slice none 0 0, .int .i64 err])) w' := ⟨_, _, rfl, Sl.nil_, hB⟩
section
variable {α : Type} {size : Nat} {cell : α → Nat → Value} {xs : List α}
theorem flat_div {i : Nat} (hs : 0 < size) (hi : i < xs.length * size) : ∃ h : i / size < xs.length, (flat size cell xs)[i]? = some (cell (xs[i / size]'h) (i % size)) := by
  have h : i / size < xs.length := (Nat.div_lt_iff_lt_mul hs).2 hi
  refine ⟨h, ?_⟩
  have := flat_at (cell := cell) (j := i % size) h (Nat.mod_lt _ hs)
  rwa [Nat.mul_comm, Nat.div_add_mod] at this
theorem flat_ext (hs : 0 < size) {l : List Value} (hl : l.length = xs.length * size) (h : ∀ k (hk : k < xs.length) j, j < size → l[k * size + j]? = some (cell xs[k] j)) : l = flat size cell xs := by
  apply List.ext_getElem?
  intro i
  by_cases hi : i < xs.length * size
  · obtain ⟨hd, e⟩ := flat_div (cell := cell) hs hi
    rw [e]
    have := h (i / size) hd (i % size) (Nat.mod_lt _ hs)
    rwa [Nat.mul_comm, Nat.div_add_mod] at this
  · rw [List.getElem?_eq_none (by omega), List.getElem?_eq_none (by rw [flat_length]; omega)]
theorem idx_inj {k k' j j' : Nat} (hj : j < size) (hj' : j' < size) (h : k * size + j = k' * size + j') : k = k' ∧ j = j' := by
  have h1 : (k * size + j) / size = k := by rw [Nat.mul_comm, Nat.mul_add_div (by omega), Nat.div_eq_of_lt hj]; simp
  have h2 : (k' * size + j') / size = k' := by rw [Nat.mul_comm, Nat.mul_add_div (by omega), Nat.div_eq_of_lt hj']; simp
  have : k = k' := by rw [← h1, ← h2, h]
  subst this
  exact ⟨rfl, by omega⟩
theorem flat_set {k j : Nat} (hk : k < xs.length) (hj : j < size) {y : α} {u : Value} (h1 : cell y j = u) (h2 : ∀ j', j' < size → j' ≠ j → cell y j' = cell xs[k] j') :
    (flat size cell xs).set (k * size + j) u = flat size cell (xs.set k y) := by
  refine flat_ext (by omega) (by rw [List.length_set, flat_length, List.length_set]) fun k' hk' j' hj' => ?_
  have hk2 : k' < xs.length := by simpa using hk'
  by_cases e : k = k'
  · subst e
    rw [List.getElem_set_self]
    by_cases e2 : j = j'
    · subst e2
      rw [List.getElem?_set_self, h1]
      rw [flat_length]
      have : (k + 1) * size ≤ xs.length * size := Nat.mul_le_mul_right _ hk
      rw [Nat.add_mul] at this; omega
    · rw [List.getElem?_set_ne (by omega), flat_at hk hj', h2 j' hj' (fun h => e2 h.symm)]
  · rw [List.getElem?_set_ne (fun h => e (idx_inj hj hj' h).1), flat_at hk2 hj', List.getElem_set_ne e]
theorem made_flat {x0 : α} (hs : 0 < size) (z : Array Value) (hz : z.toList = (List.range size).map (cell x0)) (n : Nat) : (madeCells z (n * size)).toList = flat size cell (List.replicate n x0) := by
  have hsz : z.size = size := by rw [← Array.length_toList, hz]; simp
  refine flat_ext hs (by simp [madeCells]) fun k hk j hj => ?_
  have hk' : k < n := by simpa using hk
  have hlt : k * size + j < n * size := by
    have : (k + 1) * size ≤ n * size := Nat.mul_le_mul_right _ hk'
    rw [Nat.add_mul] at this; omega
  have hm : (k * size + j) % size = j := by rw [Nat.mul_comm, Nat.mul_add_mod]; exact Nat.mod_eq_of_lt hj
  have hzj : z[j]! = cell x0 j := by
    rw [getElem!_pos z j (by omega), ← Array.getElem_toList]
    simp [hz]
  simp [madeCells, hlt, hsz, hm, hzj]
end
def mixTo {α β : Type} (h f : α → β) (xs : List α) (k : Nat) : List β := (xs.take k).map h ++ (xs.drop k).map f
section
variable {α β : Type} {h f : α → β} {xs : List α} {k : Nat}
theorem mixTo_zero : mixTo h f xs 0 = xs.map f := by simp [mixTo]
theorem mixTo_all : mixTo h f xs xs.length = xs.map h := by simp [mixTo]
theorem mixTo_length : (mixTo h f xs k).length = xs.length := by simp [mixTo]; omega
theorem mixTo_succ (hk : k < xs.length) : (mixTo h f xs k).set k (h xs[k]) = mixTo h f xs (k + 1) := by
  unfold mixTo
  have e : (xs.drop k).map f = f xs[k] :: (xs.drop (k + 1)).map f := by rw [List.drop_eq_getElem_cons hk, List.map_cons]
  rw [e, List.take_succ_eq_append_getElem hk, List.map_append, List.set_append_right]
  · simp [Nat.min_eq_left (Nat.le_of_lt hk)]
  · simp; omega
end
theorem own_below {w w' : World} {base : Nat} {e : TypeId} {size : Nat} {v : Value} {n : Nat} {xs : List Value} (h : w.ownsRow base e size v n xs) (hb : Below w.heap.size w w') : w'.ownsRow base e size v n xs := by
  refine h.kept (row := none) ⟨hb.os, hb.tape, hb.output, hb.size, fun k hk _ => hb.block k hk⟩ ?_
  cases hv : v.ownBlock
  · exact .inl rfl
  · exact .inr (by simp)
theorem own_at {α : Type} {size : Nat} {cell : α → Nat → Value} {w : World} {base : Nat} {e : TypeId} {g n cap : Nat} {xs : List α} (h : w.ownsRow base e size (.slice (some ⟨g, 0, none⟩) n cap) n (flat size cell xs)) {k j : Nat} (hk : k < xs.length) (hj : j < size) :
    w.cell? ⟨g, k * size + j, none⟩ = some (cell xs[k] j) ∧ w.frozen? ⟨g, k * size + j, none⟩ = false := by
  refine ⟨?_, h.frozenAt _⟩
  have hn : n * size = xs.length * size := by rw [← h.1, flat_length]
  have hlt : k * size + j < n * size := by
    have : (k + 1) * size ≤ xs.length * size := Nat.mul_le_mul_right _ hk
    rw [Nat.add_mul] at this; omega
  rw [h.cellAt _ hlt, flat_at hk hj]
theorem own_lt {w : World} {base : Nat} {e : TypeId} {size g n cap : Nat} {xs : List Value} (h : w.ownsRow base e size (.slice (some ⟨g, 0, none⟩) n cap) n xs) : base ≤ g ∧ g < w.heap.size := h.lt g rfl
theorem own_set {α : Type} {size : Nat} {cell : α → Nat → Value} {w : World} {base : Nat} {e : TypeId} {g n cap : Nat} {xs : List α} (h : w.ownsRow base e size (.slice (some ⟨g, 0, none⟩) n cap) n (flat size cell xs)) {k j : Nat} (hk : k < xs.length) (hj : j < size) {y : α} {u : Value}
    (h1 : cell y j = u) (h2 : ∀ j', j' < size → j' ≠ j → cell y j' = cell xs[k] j') : (w.setCell ⟨g, k * size + j, none⟩ u).ownsRow base e size (.slice (some ⟨g, 0, none⟩) n cap) n (flat size cell (xs.set k y)) := by
  rw [← flat_set hk hj h1 h2]
  exact (h.stored _ u).1
section
variable {P : Program} (w : World)
theorem run_append_nil (base : Nat) (t ty e : TypeId) (i : TypeInfo) (size : Nat) (ht : P.underlying t = some (.slice e)) (hi : P.info? e = some i)
    (v : Value) (n : Nat) (xs : List Value) (hown : w.ownsRow base e size v n xs) (c : Nat) : (Builtin.append_ #[t, t] ty #[v, .slice none 0 c]).run P w = .ok v w := by
  rcases hown.2 with ⟨rfl, rfl⟩ | ⟨g, cap, cur, rfl, _, _, hnc, _⟩
  · simp [Builtin.append_, run_underlying ht, sizeOf, typeInfo, hi, Builtin.lenOf, Builtin.firstCells]
  · simp [Builtin.append_, run_underlying ht, sizeOf, typeInfo, hi, Builtin.lenOf, Builtin.firstCells, hnc, storeCells]
theorem run_append_sl {α : Type} {size : Nat} {cell : α → Nat → Value} (base : Nat) (t ty e : TypeId) (i : TypeInfo) (z : Value) (bytes : Nat) (ht : P.underlying t = some (.slice e)) (hi : P.info? e = some i) (hz : i.zero = some z)
    (hsize : i.size = size) (hby : i.bytes = bytes) (hzs : z.cells.size = size) (hsz : 0 < size)
    (v : Value) (n : Nat) (xs : List α) (hown : w.ownsRow base e size v n (flat size cell xs))
    (B : Nat) (A : Option Addr) (c : Nat) (ys : List α) (hr : Sl size cell w B A ys) (h1 : ∀ y j, (cell y j).oneCell' = true)
    (h63 : n + ys.length ≤ maxLen) (hbytes : (n + ys.length) * bytes ≤ 140737488355328) (hbase : base ≤ w.heap.size) :
    ∃ v' w', (Builtin.append_ #[t, t] ty #[v, .slice A ys.length c]).run P w = .ok v' w' ∧ w'.ownsRow base e size v' (n + ys.length) (flat size cell (xs ++ ys)) ∧ w.grownBy w' v.ownBlock := by
  rcases A with _ | ad
  · have hm : ys = [] := by
      cases ys with
      | nil => rfl
      | cons y ys => obtain ⟨ad, h, _⟩ := hr 0 (by simp); cases h
    subst hm
    exact ⟨v, w, run_append_nil w base t ty e i size ht hi v n _ hown c, by simpa using hown, World.grownBy.refl w _⟩
  · have hcells : ∀ j u, (flat size cell ys)[j]? = some u → w.cell? (ad.add j) = some u := by
      intro j u hu
      have hj : j < ys.length * size := by
        rw [← flat_length (cell := cell)]
        exact (List.getElem?_eq_some_iff.1 hu).1
      obtain ⟨hd, e2⟩ := flat_div (cell := cell) hsz hj
      obtain ⟨ad', h, _, hc⟩ := hr (j / size) hd
      injection h with h
      subst h
      have := hc (j % size) (Nat.mod_lt _ hsz)
      rw [Nat.mul_comm, Nat.div_add_mod] at this
      rw [this, ← e2, hu]
    obtain ⟨v', w', hrun, h2, h3, _, _⟩ := run_append_own_at (P := P) w base t ty e i z size bytes ht hi hz hsize hby hzs hsz v n _ hown ad ys.length c (flat size cell ys) flat_length hcells (by
      intro u hu
      obtain ⟨y, _, hy⟩ := List.mem_flatMap.1 hu
      obtain ⟨j, _, rfl⟩ := List.mem_map.1 hy
      exact h1 y j) h63 hbytes hbase
    exact ⟨v', w', hrun, by rw [flat_append]; exact h2, h3⟩
theorem wpList_append_sl {α : Type} {size : Nat} {cell : α → Nat → Value} {w0 : World} {ops : Array Oper} {rest : List Oper} {o : Oper} {a : Act} {Q : Exit → Act → World → Prop} (hgd : o.guard = none) (s x : Operand) (t : TypeId)
    (ho : o.op = .call { callee := .builtin .append, args := #[s, x], argTypes := #[t, t] })
    (base B0 : Nat) (e : TypeId) (i : TypeInfo) (z : Value) (bytes : Nat) (ht : P.underlying t = some (.slice e)) (hi : P.info? e = some i) (hz : i.zero = some z)
    (hsize : i.size = size) (hby : i.bytes = bytes) (hzs : z.cells.size = size) (hsz : 0 < size)
    (v : Value) (n : Nat) (xs : List α) (hs : a.eval s = v) (hown : w.ownsRow base e size v n (flat size cell xs))
    (B : Nat) (A : Option Addr) (c : Nat) (ys : List α) (hx : a.eval x = .slice A ys.length c) (hr : Sl size cell w B A ys) (h1 : ∀ y j, (cell y j).oneCell' = true)
    (h63 : n + ys.length ≤ maxLen) (hbytes : (n + ys.length) * bytes ≤ 140737488355328) (hbase : base ≤ w.heap.size) (hBb : B0 ≤ base) (hB : Below B0 w0 w)
    (h : ∀ v' w', w'.ownsRow base e size v' (n + ys.length) (flat size cell (xs ++ ys)) → Below B0 w0 w' → w.grownBy w' v.ownBlock → wpList P ops Q rest (a.put o.dst v') w') : wpList P ops Q (o :: rest) a w := by
  refine wpList_plain hgd fun K hK => ?_
  obtain ⟨v', w', hrun, h2, h3⟩ := run_append_sl (P := P) w base t o.type e i z bytes ht hi hz hsize hby hzs hsz v n xs hown B A c ys hr h1 h63 hbytes hbase
  unfold Oper.wp execOp
  simp only [ho, resolve, invoke, builtin, Sem.run_bind, Sem.run_pure, Result.andThen_ok, List.map_toArray, List.map_cons, List.map_nil, hs, hx, hrun]
  refine hK _ _ (h v' w' h2 (hB.grown h3 (by omega) fun k hk => ?_) h3)
  have := (hown.lt k hk).1
  omega
end
theorem wpList_push2 {α : Type} {P : Program} {size : Nat} {cell : α → Nat → Value} {w w0 : World} {ops : Array Oper} {rest : List Oper} {o : Oper} {a : Act} {Q : Exit → Act → World → Prop} (hgd : o.guard = none) (s x : Operand) (t : TypeId)
    (ho : o.op = .call { callee := .builtin .append, args := #[s, x], argTypes := #[t, t] })
    (base B : Nat) (e : TypeId) (i : TypeInfo) (z : Value) (bytes : Nat) (ht : P.underlying t = some (.slice e)) (hi : P.info? e = some i) (hz : i.zero = some z)
    (hsize : i.size = size) (hby : i.bytes = bytes) (hzs : z.cells.size = size) (hsz : 0 < size)
    (v : Value) (n : Nat) (xs : List α) (y : α) (hs : a.eval s = v) (hown : w.ownsRow base e size v n (flat size cell xs))
    (cs : Array Value) (te : TypeId) (hcs : cs.toList = (List.range size).map (cell y)) (c : Nat) (hx : a.eval x = .slice (some ⟨w.heap.size, 0, none⟩) 1 c) (h1 : ∀ j, (cell y j).oneCell' = true)
    (h63 : n + 1 ≤ maxLen) (hbytes : (n + 1) * bytes ≤ 140737488355328) (hbase : base ≤ w.heap.size) (hBb : B ≤ base) (hB : Below B w0 w)
    (h : ∀ v' w', w'.ownsRow base e size v' (n + 1) (flat size cell (xs ++ [y])) → Below B w0 w' → w.grownBy w' v.ownBlock → (∀ b, v'.ownBlock = some b → v.ownBlock = some b ∨ w.heap.size ≤ b) → wpList P ops Q rest (a.put o.dst v') w') : wpList P ops Q (o :: rest) a (w.alloc (.cells cs te)) := by
  refine wpList_plain hgd fun K hK => ?_
  obtain ⟨v', w', hrun, h2, h3, _, h5⟩ := run_append_own_at (P := P) (w.alloc (.cells cs te)) base t o.type e i z size bytes ht hi hz hsize hby hzs hsz v n (flat size cell xs) (hown.alloc _) ⟨w.heap.size, 0, none⟩ 1 c cs.toList (by rw [hcs]; simp) (by
    intro j u hj
    have hb : (w.alloc (.cells cs te)).heap[w.heap.size]? = some (.cells cs te (0, 0)) := heap_alloc_new w _
    have e1 : (⟨w.heap.size, 0, none⟩ : Addr).add j = ⟨w.heap.size, j, none⟩ := by unfold Addr.add; split <;> simp_all
    rw [e1, cell_of_row _ _ _ _ _ _ hb]
    simpa using hj) (by
    intro u hu
    rw [hcs] at hu
    obtain ⟨j, _, rfl⟩ := List.mem_map.1 hu
    exact h1 j) h63 hbytes (by simp; omega)
  unfold Oper.wp execOp
  simp only [ho, resolve, invoke, builtin, Sem.run_bind, Sem.run_pure, Result.andThen_ok, List.map_toArray, List.map_cons, List.map_nil, hs, hx, hrun]
  have hg' := grown_alloc h3
  refine hK _ _ (h v' w' (by rw [flat_append, flat_one, ← hcs]; exact h2) (hB.grown hg' (by omega) fun k hk => ?_) hg' (fun b hb => ?_))
  · have := (hown.lt k hk).1
    omega
  · rcases h5 with h5 | h5
    · exact .inl (h5 ▸ hb)
    · rw [h5] at hb
      right
      have : (w.alloc (.cells cs te)).heap.size = b := by simpa using hb
      simp at this; omega
end Go.Proofs.YtpkepgcmifdpfaaGreatDoor
end

section
namespace Go.Proofs.YtpkepgcmifdpfaaGreatDoor
open Go Go.RowKit
def Box (w : World) (b : Nat) (cs : Array Value) (t : TypeId) : Prop := w.heap[b]? = some (.cells cs t (0, 0))
section
variable {w w' : World} {b : Nat} {cs : Array Value} {t : TypeId}
theorem Box.lt (h : Box w b cs t) : b < w.heap.size := by
  unfold Box at h
  exact (Array.getElem?_eq_some_iff.1 h).1
theorem Box.cell (h : Box w b cs t) (i : Nat) {v : Value} (hv : cs[i]? = some v) : w.cell? ⟨b, i, none⟩ = some v := by rw [cell_of_row _ _ _ _ _ _ h]; exact hv
theorem Box.frozen (h : Box w b cs t) (i : Nat) : w.frozen? ⟨b, i, none⟩ = false := frozen_of_row _ _ _ _ _ h
theorem Box.new (w : World) (cs : Array Value) (t : TypeId) : Box (w.alloc (.cells cs t)) w.heap.size cs t := heap_alloc_new w _
theorem Box.alloc (h : Box w b cs t) (o : Obj) : Box (w.alloc o) b cs t := (Below.heap_alloc w o b h.lt).trans h
theorem Box.below (h : Box w b cs t) (hb : Below w.heap.size w w') : Box w' b cs t := (hb.block b h.lt).trans h
theorem Box.drewN (h : Box w b cs t) (n : Nat) : Box (w.drewN n) b cs t := h
theorem Box.grown (h : Box w b cs t) {row : Option Nat} (hg : w.grownBy w' row) (hne : some b ≠ row) : Box w' b cs t := (hg.block b h.lt hne).trans h
theorem Box.set_other (h : Box w b cs t) {p : Addr} (hp : b ≠ p.block) (v : Value) : Box (w.setCell p v) b cs t := (heap_setCell_other w p b v hp).trans h
theorem Box.set (h : Box w b cs t) (i : Nat) (v : Value) : Box (w.setCell ⟨b, i, none⟩ v) b (cs.setIfInBounds i v) t := heap_setCell_same w b i _ _ v h
theorem Box.c1 {x : Value} (h : Box w b #[x] t) : w.cell? ⟨b, 0, none⟩ = some x := h.cell 0 rfl
theorem Box.c2 {x y : Value} (h : Box w b #[x, y] t) : w.cell? ⟨b, 0, none⟩ = some x ∧ w.cell? ⟨b, 1, none⟩ = some y := ⟨h.cell 0 rfl, h.cell 1 rfl⟩
theorem Box.c3 {x y z : Value} (h : Box w b #[x, y, z] t) : w.cell? ⟨b, 0, none⟩ = some x ∧ w.cell? ⟨b, 1, none⟩ = some y ∧ w.cell? ⟨b, 2, none⟩ = some z := ⟨h.cell 0 rfl, h.cell 1 rfl, h.cell 2 rfl⟩
theorem Box.c4 {x y z u : Value} (h : Box w b #[x, y, z, u] t) : w.cell? ⟨b, 0, none⟩ = some x ∧ w.cell? ⟨b, 1, none⟩ = some y ∧ w.cell? ⟨b, 2, none⟩ = some z ∧ w.cell? ⟨b, 3, none⟩ = some u := ⟨h.cell 0 rfl, h.cell 1 rfl, h.cell 2 rfl, h.cell 3 rfl⟩
theorem Box.c8 {a b' c d e f g h' : Value} (h : Box w b #[a, b', c, d, e, f, g, h'] t) : w.cell? ⟨b, 0, none⟩ = some a ∧ w.cell? ⟨b, 1, none⟩ = some b' ∧ w.cell? ⟨b, 2, none⟩ = some c ∧ w.cell? ⟨b, 3, none⟩ = some d ∧ w.cell? ⟨b, 4, none⟩ = some e ∧ w.cell? ⟨b, 5, none⟩ = some f ∧ w.cell? ⟨b, 6, none⟩ = some g ∧ w.cell? ⟨b, 7, none⟩ = some h' := ⟨h.cell 0 rfl, h.cell 1 rfl, h.cell 2 rfl, h.cell 3 rfl, h.cell 4 rfl, h.cell 5 rfl, h.cell 6 rfl, h.cell 7 rfl⟩
end
theorem boxes1 (w : World) (c0 : Array Value) (t0 : TypeId) : ∃ W : World, Hid (w.alloc (.cells c0 t0) = W) ∧ Box W w.heap.size c0 t0 ∧ Below w.heap.size w W ∧ W.heap.size = w.heap.size + 1 :=
  ⟨_, Lib.hid rfl, Box.new _ _ _, (Below.refl w.heap.size w).alloc (Nat.le_refl _) _, by simp⟩
theorem boxes2 (w : World) (c0 : Array Value) (t0 : TypeId) (c1 : Array Value) (t1 : TypeId) : ∃ W : World, Hid ((w.alloc (.cells c0 t0)).alloc (.cells c1 t1) = W) ∧ Box W w.heap.size c0 t0 ∧ Box W (w.heap.size + 1) c1 t1 ∧ Below w.heap.size w W ∧ W.heap.size = w.heap.size + 2 := by
  have h1 := Box.new (w.alloc (.cells c0 t0)) c1 t1
  rw [show (w.alloc (.cells c0 t0)).heap.size = w.heap.size + 1 by simp] at h1
  exact ⟨_, Lib.hid rfl, (Box.new _ _ _).alloc _, h1, ((Below.refl w.heap.size w).alloc (Nat.le_refl _) _).alloc (by simp) _, by simp⟩
theorem boxes3 (w : World) (c0 : Array Value) (t0 : TypeId) (c1 : Array Value) (t1 : TypeId) (c2 : Array Value) (t2 : TypeId) : ∃ W : World, Hid (((w.alloc (.cells c0 t0)).alloc (.cells c1 t1)).alloc (.cells c2 t2) = W) ∧ Box W w.heap.size c0 t0 ∧ Box W (w.heap.size + 1) c1 t1 ∧ Box W (w.heap.size + 2) c2 t2 ∧ Below w.heap.size w W ∧ W.heap.size = w.heap.size + 3 := by
  obtain ⟨V, hV, b0, b1, hB, hs⟩ := boxes2 w c0 t0 c1 t1
  have h1 := Box.new V c2 t2
  rw [hs] at h1
  refine ⟨_, Lib.hid rfl, ?_, ?_, ?_, ?_, ?_⟩
  all_goals rw [hV.out]
  · exact b0.alloc _
  · exact b1.alloc _
  · exact h1
  · exact hB.alloc hB.size _
  · simp [hs]
theorem boxes4 (w : World) (c0 : Array Value) (t0 : TypeId) (c1 : Array Value) (t1 : TypeId) (c2 : Array Value) (t2 : TypeId) (c3 : Array Value) (t3 : TypeId) : ∃ W : World, Hid ((((w.alloc (.cells c0 t0)).alloc (.cells c1 t1)).alloc (.cells c2 t2)).alloc (.cells c3 t3) = W) ∧ Box W w.heap.size c0 t0 ∧ Box W (w.heap.size + 1) c1 t1 ∧ Box W (w.heap.size + 2) c2 t2 ∧ Box W (w.heap.size + 3) c3 t3 ∧ Below w.heap.size w W ∧ W.heap.size = w.heap.size + 4 := by
  obtain ⟨V, hV, b0, b1, b2, hB, hs⟩ := boxes3 w c0 t0 c1 t1 c2 t2
  have h1 := Box.new V c3 t3
  rw [hs] at h1
  refine ⟨_, Lib.hid rfl, ?_, ?_, ?_, ?_, ?_, ?_⟩
  all_goals rw [hV.out]
  · exact b0.alloc _
  · exact b1.alloc _
  · exact b2.alloc _
  · exact h1
  · exact hB.alloc hB.size _
  · simp [hs]
theorem add_base (b k : Nat) : (⟨b, 0, none⟩ : Addr).add k = ⟨b, k, none⟩ := by unfold Addr.add; split <;> simp_all
theorem Sl.kept {α : Type} {size : Nat} {cell : α → Nat → Value} {w : World} {A : Option Addr} {xs : List α} {u : Kept w.heap.size w} (h : Sl size cell w w.heap.size A xs) : Sl size cell u.val u.val.heap.size A xs := (h.below u.h).more u.h.size
theorem Sl.of_box {α : Type} {size : Nat} {cell : α → Nat → Value} {w : World} {b : Nat} {cs : Array Value} {t : TypeId} {xs : List α} (hb : Box w b cs t) (h : cs.toList = flat size cell xs) :
    Sl size cell w w.heap.size (some ⟨b, 0, none⟩) xs := by
  intro k hk
  refine ⟨_, rfl, hb.lt, fun j hj => ?_⟩
  have e1 : (⟨b, 0, none⟩ : Addr).add (k * size + j) = ⟨b, k * size + j, none⟩ := by unfold Addr.add; split <;> simp_all
  rw [e1, cell_of_row _ _ _ _ _ _ hb, ← Array.getElem?_toList, h, flat_at hk hj]
end Go.Proofs.YtpkepgcmifdpfaaGreatDoor
end

section
namespace Go.Proofs.YtpkepgcmifdpfaaGreatDoor
open Go Go.RowKit
def setRun (w : World) (g o : Nat) : List Value → World
  | [] => w
  | v :: r => setRun (w.setCell ⟨g, o, none⟩ v) g (o + 1) r
def listRun (l : List Value) (o : Nat) : List Value → List Value
  | [] => l
  | v :: r => listRun (l.set o v) (o + 1) r
theorem listRun_length : ∀ (vs : List Value) (l : List Value) (o : Nat), (listRun l o vs).length = l.length
  | [], _, _ => rfl
  | v :: r, l, o => by rw [listRun, listRun_length r]; simp
theorem listRun_at : ∀ (vs : List Value) (l : List Value) (o i : Nat), o + vs.length ≤ l.length → (listRun l o vs)[i]? = if o ≤ i ∧ i < o + vs.length then vs[i - o]? else l[i]?
  | [], l, o, i, _ => by simp [listRun]; intro h; omega
  | v :: r, l, o, i, h => by
    have h' : o + 1 + r.length ≤ l.length := by simp at h; omega
    rw [listRun, listRun_at r (l.set o v) (o + 1) i (by simpa using h')]
    by_cases h1 : o + 1 ≤ i ∧ i < o + 1 + r.length
    · rw [if_pos h1, if_pos (by simp; omega)]
      obtain ⟨u, rfl⟩ : ∃ u, i = o + 1 + u := ⟨i - (o + 1), by omega⟩
      simp [show o + 1 + u - o = u + 1 by omega]
    · rw [if_neg h1]
      by_cases h2 : i = o
      · subst h2
        rw [if_pos (by simp), List.getElem?_set_self (by simp at h; omega)]
        simp
      · rw [if_neg (by simp; omega), List.getElem?_set_ne (Ne.symm h2)]
theorem own_run {base : Nat} {e : TypeId} {size g n cap : Nat} : ∀ (vs : List Value) (w : World) (xs : List Value) (o : Nat), w.ownsRow base e size (.slice (some ⟨g, 0, none⟩) n cap) n xs → (setRun w g o vs).ownsRow base e size (.slice (some ⟨g, 0, none⟩) n cap) n (listRun xs o vs)
  | [], _, _, _, h => h
  | v :: r, _, _, o, h => own_run r _ _ _ (h.stored o v).1
theorem own_put {α : Type} {size : Nat} {cell : α → Nat → Value} {w : World} {base : Nat} {e : TypeId} {g n cap : Nat} {xs : List α} (hs : 0 < size) (h : w.ownsRow base e size (.slice (some ⟨g, 0, none⟩) n cap) n (flat size cell xs)) {k : Nat} (hk : k < xs.length) (y : α) :
    (setRun w g (k * size) ((List.range size).map (cell y))).ownsRow base e size (.slice (some ⟨g, 0, none⟩) n cap) n (flat size cell (xs.set k y)) := by
  have h2 := own_run ((List.range size).map (cell y)) w _ (k * size) h
  have hb : k * size + size ≤ xs.length * size := by
    have : (k + 1) * size ≤ xs.length * size := Nat.mul_le_mul_right _ hk
    rwa [Nat.add_mul, Nat.one_mul] at this
  have e2 : listRun (flat size cell xs) (k * size) ((List.range size).map (cell y)) = flat size cell (xs.set k y) := by
    refine flat_ext hs (by rw [listRun_length, flat_length, List.length_set]) fun k' hk' j hj => ?_
    have hk2 : k' < xs.length := by simpa using hk'
    rw [listRun_at _ _ _ _ (by rw [flat_length]; simpa using hb)]
    simp only [List.length_map, List.length_range]
    by_cases e : k = k'
    · subst e
      rw [if_pos (by omega), List.getElem_set_self]
      simp [hj]
    · rw [if_neg (by
        rintro ⟨h3, h4⟩
        rcases Nat.lt_or_ge k k' with h5 | h5
        · have : (k + 1) * size ≤ k' * size := Nat.mul_le_mul_right _ h5
          rw [Nat.add_mul, Nat.one_mul] at this; omega
        · have : (k' + 1) * size ≤ k * size := Nat.mul_le_mul_right _ (by omega)
          rw [Nat.add_mul, Nat.one_mul] at this; omega), List.getElem_set_ne e, flat_at hk2 hj]
  rw [e2] at h2
  exact h2
theorem setRun_grown {w : World} {g : Nat} : ∀ (vs : List Value) {w1 : World} {o : Nat}, w.grownBy w1 (some g) → w.grownBy (setRun w1 g o vs) (some g)
  | [], _, _, h => h
  | v :: r, w1, o, h => setRun_grown (o := o + 1) r ⟨h.os, h.tape, h.output, by simpa using h.size, fun k hk hne => by
      rw [heap_setCell_other w1 ⟨g, o, none⟩ k v (fun e => hne (by simp [e]))]; exact h.block k hk hne⟩
end Go.Proofs.YtpkepgcmifdpfaaGreatDoor
end

section
namespace Go.Proofs.YtpkepgcmifdpfaaGreatDoor
open Go Go.RowKit
def regionOf (n : Nat) : Code → Option Code
 | .region i ops d => if i = n then some (.region i ops d) else none
 | .seq a b => (regionOf n a).orElse fun _ => regionOf n b
 | .cond _ a b => (regionOf n a).orElse fun _ => regionOf n b
 | .block _ a => regionOf n a
 | .loop a => regionOf n a
 | .scope a => regionOf n a
 | .rangeFunc _ _ a b => (regionOf n a).orElse fun _ => regionOf n b
 | _ => none
end Go.Proofs.YtpkepgcmifdpfaaGreatDoor
end
