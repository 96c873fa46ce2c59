/- A bundle of texts: DpMath, DpLegal, RdM. -/
import Derived.Test.YtceobfigfmnacaaDoorE02
import Derived.Test.YtceobfigfmnacaaDoorE03
section
namespace Go.Proofs.YtceobfigfmnacaaDoor
open Go
structure Mv where
  st : Int
  old : Int
  new : Int
  tw : Int
  cr : Int
  wk : Int
  deriving DecidableEq
structure Ch where
  st : Int
  ch : Int
  deriving DecidableEq
namespace M
def W64 (x : Int) : Prop := -9223372036854775808 ≤ x ∧ x ≤ 9223372036854775807
theorem wrap_flip {x y o : Int} (hy : W64 y) (ho : W64 o) : y = IntKind.i64.wrap (x + o) ↔ IntKind.i64.wrap (y - x) = o := by
  unfold W64 at *
  unfold IntKind.wrap
  simp [IntKind.bits, IntKind.signed]
  omega
def hit (p : P5) (a b : Ch) : Bool := decide (p.a = a.st) && (decide (p.b = b.st) && (decide (p.d ≤ a.ch) && (decide (a.ch ≤ p.e) && decide (b.ch = IntKind.i64.wrap (a.ch + p.c)))))
def one (p : P5) (a b : Ch) : Bool := decide (p.a = a.st) && (decide (p.b = b.st) && (decide (p.d ≤ a.ch) && (decide (a.ch ≤ p.e) && decide (IntKind.i64.wrap (b.ch - a.ch) = p.c))))
theorem hit_one {p : P5} {a b : Ch} (hb : W64 b.ch) (hp : W64 p.c) : hit p a b = one p a b := by
  unfold hit one
  rw [decide_eq_decide.2 (wrap_flip hb hp)]
def forbd (ps : List P5) (a b : Ch) : Bool := !(decide (a.ch = 0) || decide (b.ch = 0)) && ps.any fun p => hit p a b || hit p b a
def waits (ps : List P5) (x y : Mv) : Bool := !decide (x.st = y.st) && forbd ps ⟨x.st, x.new⟩ ⟨y.st, y.old⟩
theorem hit_st {p : P5} {a b : Ch} (h : hit p a b = true) : p.a = a.st ∧ p.b = b.st := by
  unfold hit at h
  simp only [Bool.and_eq_true, decide_eq_true_eq] at h
  exact ⟨h.1, h.2.1⟩
theorem waits_of {ps qs : List P5} {x y : Mv} (h1 : ∀ p ∈ qs, p ∈ ps) (h2 : ∀ p ∈ ps, (p.a = x.st ∧ p.b = y.st) ∨ (p.a = y.st ∧ p.b = x.st) → p ∈ qs) : waits qs x y = waits ps x y := by
  unfold waits forbd
  congr 2
  rw [Bool.eq_iff_iff, List.any_eq_true, List.any_eq_true]
  constructor
  · rintro ⟨p, hp, h⟩; exact ⟨p, h1 p hp, h⟩
  · rintro ⟨p, hp, h⟩
    refine ⟨p, h2 p hp ?_, h⟩
    rw [Bool.or_eq_true] at h
    rcases h with h | h
    · exact .inl (hit_st h)
    · exact .inr (hit_st h)
theorem waits_none {ps : List P5} {x y : Mv} (h : ∀ p ∈ ps, ¬ ((p.a = x.st ∧ p.b = y.st) ∨ (p.a = y.st ∧ p.b = x.st))) : waits ps x y = false := by
  have := waits_of (ps := ps) (qs := []) (x := x) (y := y) (fun p hp => by cases hp) (fun p hp he => absurd he (h p hp))
  rw [← this]
  unfold waits forbd
  simp
def mvOk (m : Mv) : Bool := decide (0 ≤ m.st ∧ m.st ≤ 511) && (decide (m.old = 0 ∨ 2 ≤ m.old ∧ m.old ≤ 51) && (decide (m.new = 0 ∨ 2 ≤ m.new ∧ m.new ≤ 51) && (decide (m.old ≠ m.new) && (decide (0 ≤ m.tw ∧ m.tw ≤ 255) && (decide (0 ≤ m.cr ∧ m.cr ≤ 255) && decide (1 ≤ m.wk ∧ m.wk ≤ 52))))))
def mvsOk (l : List Mv) : Prop := l.length ≤ 512 ∧ (∀ m ∈ l, mvOk m = true) ∧ l.Pairwise fun x y => x.st < y.st
theorem mvsOk_inj {l : List Mv} (h : l.Pairwise fun x y => x.st < y.st) {i j : Nat} (hi : i < l.length) (hj : j < l.length) (e : l[i].st = l[j].st) : i = j := by
  rw [List.pairwise_iff_getElem] at h
  rcases Nat.lt_trichotomy i j with h1 | h1 | h1
  · have := h i j hi hj h1; omega
  · exact h1
  · have := h j i hj hi h1; omega
def rows (ps : List P5) (l : List Mv) : List Nat := l.map fun x => Bs.ofP (fun j => match l[j]? with | some y => waits ps x y | none => false) l.length
theorem rows_len (ps : List P5) (l : List Mv) : (rows ps l).length = l.length := by unfold rows; rw [List.length_map]
theorem rows_at {ps : List P5} {l : List Mv} {i j : Nat} (hi : i < l.length) (hj : j < l.length) : (Dg.row (rows ps l) i).testBit j = waits ps l[i] l[j] := by
  unfold Dg.row rows
  rw [List.getD_eq_getElem?_getD, List.getElem?_map, List.getElem?_eq_getElem hi]
  simp only [Option.map_some, Option.getD_some]
  rw [Bs.ofP_bit, decide_eq_true hj, Bool.true_and, List.getElem?_eq_getElem hj]
theorem rows_ok {ps : List P5} {l : List Mv} (h : l.length ≤ 512) : Dg.Ok (rows ps l) where
  len := by rw [rows_len]; exact h
  fit := fun v j hb => by
    rw [rows_len]
    unfold Dg.row rows at hb
    rw [List.getD_eq_getElem?_getD, List.getElem?_map] at hb
    cases hv : l[v]? with
    | none => rw [hv] at hb; simp at hb
    | some x =>
      rw [hv] at hb
      simp only [Option.map_some, Option.getD_some] at hb
      rw [Bs.ofP_bit, Bool.and_eq_true, decide_eq_true_eq] at hb
      exact hb.1
def sts (l : List Mv) (s : Nat) : List Int := (Bs.els s 0).map fun v => match l[v]? with | some m => m.st | none => 0
def grps (ps : List P5) (l : List Mv) : List (List Int) := (Dg.ord (rows ps l)).map fun v => sts l (Dg.scc (rows ps l) v)
end M
end Go.Proofs.YtceobfigfmnacaaDoor
end

section
namespace Go.Proofs.YtceobfigfmnacaaDoor
open Go
namespace M
def idx (l : List Mv) (st : Int) : Option Nat := (List.range l.length).find? fun i => match l[i]? with | some m => decide (m.st = st) | none => false
theorem idx_some {l : List Mv} {st : Int} {i : Nat} (h : idx l st = some i) : ∃ hi : i < l.length, l[i].st = st := by
 have h1 := List.mem_of_find?_eq_some h
 have hi : i < l.length := by simpa using h1
 have h2 := List.find?_some h
 rw [List.getElem?_eq_getElem hi] at h2
 exact ⟨hi, by simpa using h2⟩
theorem idx_at {l : List Mv} (hp : l.Pairwise fun x y => x.st < y.st) {i : Nat} (hi : i < l.length) : idx l l[i].st = some i := by
 cases h : idx l l[i].st with
 | none =>
  unfold idx at h
  rw [List.find?_eq_none] at h
  have := h i (by simpa using hi)
  rw [List.getElem?_eq_getElem hi] at this
  simp at this
 | some j =>
  obtain ⟨hj, e⟩ := idx_some h
  rw [mvsOk_inj hp hj hi e]
theorem idx_none {l : List Mv} {st : Int} (h : idx l st = none) {i : Nat} (hi : i < l.length) : l[i].st ≠ st := by
 unfold idx at h
 rw [List.find?_eq_none] at h
 have := h i (by simpa using hi)
 rw [List.getElem?_eq_getElem hi] at this
 simpa using this
def flatO : Nat → List (List Int) → List (Nat × Int)
 | _, [] => []
 | k, s :: r => s.map (fun st => (k, st)) ++ flatO (k + 1) r
def place (l : List Mv) : List (Option Nat) → List (Nat × Int) → Option (List (Option Nat))
 | S, [] => some S
 | S, (i, st) :: r =>
  match idx l st with
  | none => none
  | some v => if (S.getD v none).isSome = true then none else place l (S.set v (some i)) r
def setOf (l : List Mv) (order : List (List Int)) : Option (List (Option Nat)) := place l (List.replicate l.length none) (flatO 0 order)
def late (ps : List P5) (l : List Mv) (S : List (Option Nat)) : Bool := (List.range l.length).any fun v => (List.range l.length).any fun w => (Dg.row (rows ps l) v).testBit w && decide ((S.getD v none).getD 0 < (S.getD w none).getD 0)
def legal (ps : List P5) (l : List Mv) (order : List (List Int)) : Int :=
 match setOf l order with
 | none => 2
 | some S => if S.any (fun o => o.isNone) = true then 9 else if late ps l S = true then 10 else 0
def chOf (m : Mv) (moved : Bool) : Ch := ⟨m.st, if moved = true then m.new else m.old⟩
def free (ps : List P5) (l : List Mv) (moved : Nat → Bool) : Prop := ∀ i k (hi : i < l.length) (hk : k < l.length), k < i → forbd ps (chOf l[i] (moved i)) (chOf l[k] (moved k)) = false
end M
end Go.Proofs.YtceobfigfmnacaaDoor
end

section
namespace Go.Proofs.YtceobfigfmnacaaDoor
open Go
namespace M
abbrev Tb := Nat → Nat → Bool
def upd (f : Tb) (i k : Nat) (v : Bool) : Tb := fun a b => if a = i ∧ b = k then v else f a b
def stepM (i k : Nat) (f : Tb) (m : Nat) : Tb := if (f i m && f m k) = true then upd f i k true else f
def stepK (n i : Nat) (f : Tb) (k : Nat) : Tb := (List.range n).foldl (stepM i k) f
def stepI (n : Nat) (f : Tb) (i : Nat) : Tb := (List.range n).foldl (stepK n i) f
def turnT (n : Nat) (f : Tb) : Tb := (List.range n).foldl (stepI n) f
def turnsT (n : Nat) : Nat → Tb → Tb
  | 0, f => f
  | t + 1, f => turnT n (turnsT n t f)
def dep0 (R : List Nat) : Tb := fun i k => (Dg.row R i).testBit k
def dep (R : List Nat) : Tb := turnsT R.length R.length (dep0 R)
def leT (f g : Tb) : Prop := ∀ a b, f a b = true → g a b = true
theorem leT.trans {f g h : Tb} (h1 : leT f g) (h2 : leT g h) : leT f h := fun a b x => h2 a b (h1 a b x)
theorem fold_le {β : Type} {step : Tb → β → Tb} (hm : ∀ g x, leT g (step g x)) : ∀ (l : List β) (g : Tb), leT g (l.foldl step g)
  | [], _ => fun _ _ h => h
  | x :: l, g => (hm g x).trans (fold_le hm l _)
theorem fold_has {β : Type} {step : Tb → β → Tb} (hm : ∀ g x, leT g (step g x)) {f0 : Tb} {x : β} {a b : Nat} (h : ∀ g, leT f0 g → step g x a b = true) : ∀ {l : List β}, x ∈ l → ∀ g, leT f0 g → (l.foldl step g) a b = true
  | y :: l, hx, g, hg => by
    rw [List.foldl_cons]
    rcases List.mem_cons.1 hx with rfl | hx
    · exact fold_le hm l _ a b (h g hg)
    · exact fold_has hm h hx _ (hg.trans (hm g y))
theorem fold_snd {β : Type} {step : Tb → β → Tb} {Q : Nat → Nat → Prop} (hs : ∀ g x, (∀ a b, g a b = true → Q a b) → ∀ a b, step g x a b = true → Q a b) : ∀ (l : List β) (g : Tb), (∀ a b, g a b = true → Q a b) → ∀ a b, (l.foldl step g) a b = true → Q a b
  | [], _, h => h
  | x :: l, g, h => fold_snd hs l _ (hs g x h)
theorem stepM_le (i k : Nat) (g : Tb) (m : Nat) : leT g (stepM i k g m) := fun a b h => by
  unfold stepM
  split
  · unfold upd; split
    · rfl
    · exact h
  · exact h
theorem stepK_le (n i : Nat) (g : Tb) (k : Nat) : leT g (stepK n i g k) := fold_le (stepM_le i k) _ g
theorem stepI_le (n : Nat) (g : Tb) (i : Nat) : leT g (stepI n g i) := fold_le (stepK_le n i) _ g
theorem turnT_le (n : Nat) (g : Tb) : leT g (turnT n g) := fold_le (stepI_le n) _ g
theorem turnT_has {n : Nat} {f : Tb} {i k m : Nat} (hi : i < n) (hk : k < n) (hm : m < n) (h1 : f i m = true) (h2 : f m k = true) : turnT n f i k = true := by
  refine fold_has (stepI_le n) (f0 := f) (x := i) (fun g hg => ?_) (List.mem_range.2 hi) f (fun _ _ h => h)
  refine fold_has (stepK_le n i) (f0 := f) (x := k) (fun g hg => ?_) (List.mem_range.2 hk) g hg
  refine fold_has (stepM_le i k) (f0 := f) (x := m) (fun g hg => ?_) (List.mem_range.2 hm) g hg
  unfold stepM
  rw [hg _ _ h1, hg _ _ h2]
  simp [upd]
theorem turnT_snd {n : Nat} {Q : Nat → Nat → Prop} (hQ : ∀ i m k, Q i m → Q m k → Q i k) (g : Tb) (h : ∀ a b, g a b = true → Q a b) : ∀ a b, turnT n g a b = true → Q a b := by
  have s1 : ∀ i k (g : Tb) (m : Nat), (∀ a b, g a b = true → Q a b) → ∀ a b, stepM i k g m a b = true → Q a b := fun i k g m hg a b h => by
    unfold stepM at h
    split at h
    · rename_i hc
      rw [Bool.and_eq_true] at hc
      unfold upd at h
      split at h
      · rename_i e
        obtain ⟨rfl, rfl⟩ := e
        exact hQ _ _ _ (hg _ _ hc.1) (hg _ _ hc.2)
      · exact hg _ _ h
    · exact hg _ _ h
  exact fold_snd (fun g i hg => fold_snd (fun g k hg => fold_snd (s1 i k) _ g hg) _ g hg) _ g h
theorem turnsT_has {R : List Nat} (h : Dg.Ok R) : ∀ (t d i k : Nat), d ≤ t → i < R.length → Dg.Steps R i (d + 1) k → turnsT R.length t (dep0 R) i k = true
  | 0, d, i, k, hd, hi, hs => by
    obtain rfl : d = 0 := by omega
    cases hs with
    | succ h1 h2 => cases h1; exact h2
  | t + 1, d, i, k, hd, hi, hs => by
    by_cases hle : d ≤ t
    · exact turnT_le _ _ _ _ (turnsT_has h t d i k hle hi hs)
    · obtain rfl : d = t + 1 := by omega
      obtain ⟨m, h1, h2⟩ := hs.split
      have hm : m < R.length := (h1.plus).lt h
      have hk : k < R.length := (h2.plus).lt h
      exact turnT_has hi hk hm (turnsT_has h t t i m (Nat.le_refl _) hi h1) (turnsT_has h t 0 m k (Nat.zero_le _) hm h2)
theorem dep_eq {R : List Nat} (h : Dg.Ok R) {i : Nat} (hi : i < R.length) (k : Nat) : dep R i k = Dg.plus R i k := by
  rw [Bool.eq_iff_iff, Dg.plus_iff h]
  constructor
  · have key : ∀ t a b, turnsT R.length t (dep0 R) a b = true → Dg.Plus R a b := by
      intro t
      induction t with
      | zero => exact fun a b h => .one h
      | succ t ih => exact turnT_snd (fun _ _ _ => .trans) _ ih
    exact key _ i k
  · intro hp
    obtain ⟨d, h1, h2⟩ := Dg.plus_steps h hp
    exact turnsT_has h _ d i k h1 hi h2
def inG (d : Tb) (i k : Nat) : Bool := decide (k = i) || (d i k && d k i)
def rdyT (d : Tb) (lst : Nat → Bool) (n i : Nat) : Bool := (List.range n).all fun a => !(inG d i a) || (List.range n).all fun b => !(d a b) || lst b || inG d i b
theorem inG_eq {R : List Nat} (h : Dg.Ok R) {i k : Nat} (hi : i < R.length) (hk : k < R.length) : inG (dep R) i k = Dg.grp R i k := by
  unfold inG Dg.grp
  rw [dep_eq h hi, dep_eq h hk]
theorem all_congr {p q : Nat → Bool} : ∀ {l : List Nat}, (∀ x ∈ l, p x = q x) → l.all p = l.all q
  | [], _ => rfl
  | x :: l, h => by rw [List.all_cons, List.all_cons, h x (by simp), all_congr (fun y hy => h y (by simp [hy]))]
theorem rdyT_eq {R : List Nat} (h : Dg.Ok R) {i : Nat} (hi : i < R.length) {lst : Nat → Bool} {S : Nat} (hl : ∀ j, j < R.length → lst j = S.testBit j) : rdyT (dep R) lst R.length i = Dg.rdy R S i := by
  unfold rdyT Dg.rdy
  refine all_congr fun a ha => ?_
  have ha' := List.mem_range.1 ha
  rw [inG_eq h hi ha']
  congr 1
  refine all_congr fun b hb => ?_
  have hb' := List.mem_range.1 hb
  rw [inG_eq h hi hb', dep_eq h ha', hl b hb']
structure RG (R done left : List Nat) (S : Nat) : Prop where
  inv : Dg.Inv R left S
  eq : Dg.ord R = done ++ Dg.choose R left.length left S
theorem RG.start {R : List Nat} (h : Dg.Ok R) : RG R [] (Dg.leads R) 0 := ⟨Dg.Inv.start h, rfl⟩
theorem RG.at {R done left : List Nat} {S : Nat} (h : Dg.Ok R) (r : RG R done left S) {j : Nat} (hj : j < R.length) (hn : S.testBit j = false) : ∃ v, Dg.rfirst R S = some v ∧ v < R.length ∧ (∀ k, (Dg.scc R v).testBit k = true → S.testBit k = false) ∧ RG R (done ++ [v]) (left.erase v) (S ||| Dg.scc R v) := by
  have hne : left ≠ [] := by
    rintro rfl
    have := (r.inv.has j).2 ⟨hj, fun v hv => by cases hv⟩
    rw [hn] at this; cases this
  obtain ⟨v, hv⟩ := r.inv.found h hne
  have hm := List.mem_of_find?_eq_some hv
  have hvl := (Dg.mem_leads.1 (r.inv.sub v hm)).1
  refine ⟨v, r.inv.same h hv, hvl, fun k hk => ?_, r.inv.next h hv, ?_⟩
  · cases hb : S.testBit k with
    | false => rfl
    | true => exact absurd ((Dg.scc_bit h hvl k).1 hk) (((r.inv.has k).1 hb).2 v hm)
  · have hl := List.length_erase_of_mem hm
    have hp := List.length_pos_of_mem hm
    rw [r.eq, show left.length = (left.erase v).length + 1 by omega]
    conv => lhs; unfold Dg.choose
    rw [hv]
    simp
def cntB (n : Nat) (g : Nat → Bool) : Nat := ((List.range n).filter g).length
def setB (g : Nat → Bool) (k : Nat) : Nat → Bool := fun j => if j = k then true else g j
theorem cntB_lt {n : Nat} {g : Nat → Bool} (h : cntB n g < n) : ∃ j, j < n ∧ g j = false := by
  apply Classical.byContradiction
  intro hn
  have ha : ∀ j, j < n → g j = true := fun j hj => by
    cases hb : g j with
    | true => rfl
    | false => exact absurd ⟨j, hj, hb⟩ hn
  have : cntB n g = n := by
    unfold cntB
    rw [List.filter_eq_self.2 (fun j hj => ha j (List.mem_range.1 hj)), List.length_range]
  omega
end M
end Go.Proofs.YtceobfigfmnacaaDoor
end
