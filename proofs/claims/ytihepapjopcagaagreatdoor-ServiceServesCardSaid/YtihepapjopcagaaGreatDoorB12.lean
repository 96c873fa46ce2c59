/- A bundle of texts: StS, Serv, Clos, Coll, Cells. -/
import Derived.Test.YtihepapjopcagaaGreatDoorB11
import Derived.Shelf.SlIter.Collect
import Derived.RangeFuncGives
import Derived.Maps.AppendAt
import Derived.Shelf.Abstract
import Derived.RangeFuncNested
import Derived.RangeFuncBound
import Derived.RangeFuncCalls
import Derived.RangeFuncLeaves
import Derived.WalkKit
import Derived.OwnWalkIn
import Derived.TacticsInMore
/- Layer 13: Strongest. -/
section
namespace Go.Proofs.YtihepapjopcagaaGreatDoor
open Go Go.RowKit
set_option maxRecDepth 100000

def M.sstep (W : Int) (G : List Int) (cx cy : Int) (b : Int × Int) (s : St) : Int × Int :=
  if b.1 < 0 ∨ b.2 < M.field W G s cx cy ∨ (M.field W G s cx cy = b.2 ∧ s.id < b.1) then (s.id, M.field W G s cx cy) else b
def M.strong (W : Int) (G : List Int) (cx cy : Int) (l : List St) : Int × Int := l.foldl (M.sstep W G cx cy) (-1, 0)
theorem M.strong_snoc (W : Int) (G : List Int) (cx cy : Int) (l : List St) (s : St) : M.strong W G cx cy (l ++ [s]) = M.sstep W G cx cy (M.strong W G cx cy l) s := by
  unfold M.strong; rw [List.foldl_append]; rfl
def M.strongR (W H : Int) (G P : List Int) (l : List St) (cx cy : Int) : Int × Int × Int :=
  if (M.has W H G P cx cy && l.all fun s => M.okF W H G P s cx cy) = true then (if l = [] then (0, 0, 9) else ((M.strong W G cx cy l).1, (M.strong W G cx cy l).2, 0)) else (0, 0, 2)
theorem M.okF_iff {W H : Int} {G P : List Int} {s : St} {cx cy : Int} (hc : M.has W H G P cx cy = true) : M.okF W H G P s cx cy = true ↔ M.svalid s = true ∧ s.x < W ∧ s.y < H := by
  rw [M.okF_eq, hc, Bool.and_true, Bool.and_eq_true]
  have ht : M.tvalid W H G P = true := by unfold M.has at hc; rw [Bool.and_eq_true] at hc; exact hc.1
  constructor
  · rintro ⟨a, b⟩
    unfold M.has at b
    rw [Bool.and_eq_true] at b
    have := M.inside_iff.1 b.2
    exact ⟨a, this.1.2, this.2.2⟩
  · rintro ⟨a, b, c⟩
    obtain ⟨_, h2, h3, _⟩ := M.svalid_iff.1 a
    refine ⟨a, ?_⟩
    unfold M.has
    rw [ht, Bool.true_and]
    exact M.inside_iff.2 ⟨⟨h2.1, b⟩, h3.1, c⟩
theorem M.field_bd {W H : Int} {G P : List Int} {s : St} {cx cy : Int} (h : M.okF W H G P s cx cy = true) : -1000 ≤ M.field W G s cx cy ∧ M.field W G s cx cy ≤ 300 := by
  unfold M.okF at h
  rw [Bool.and_eq_true] at h
  obtain ⟨-, -, -, h4, -, -, hav⟩ := M.svalid_iff.1 h.1
  have h1 := M.aloss_bd (M.avalid_iff.1 hav).2.2 (cx - s.x) (cy - s.y)
  have h2 := M.tot_bd h.2
  unfold M.field
  omega

theorem ret_tri {r : Int × Int × Int} {a b c : Int} (h : r = (a, b, c)) : Ending.returned (.tuple #[.int .i64 a, .int .i64 b, .int .i64 c]) = .returned (.tuple #[.int .i64 r.1, .int .i64 r.2.1, .int .i64 r.2.2]) := by rw [h]

end Go.Proofs.YtihepapjopcagaaGreatDoor
end

/- Layer 14: Threshold, Covers and the closures of cells. -/
section
namespace Go.Proofs.YtihepapjopcagaaGreatDoor
open Go Go.RowKit
set_option maxRecDepth 100000

def M.thr (b : Int) : Int := if b = 1 then 56 else if b = 2 then 72 else 82
def M.cov (W : Int) (G : List Int) (s : St) (cx cy : Int) : Bool := decide (M.thr s.band ≤ M.field W G s cx cy)
theorem M.band_in {s : St} (h : M.svalid s = true) : s.band = 1 ∨ s.band = 2 ∨ s.band = 3 := by
  obtain ⟨-, -, -, -, h5, h6, -⟩ := M.svalid_iff.1 h
  rw [h6]
  unfold M.band
  repeat' split
  all_goals omega
theorem M.okF_valid {W H : Int} {G P : List Int} {s : St} {cx cy : Int} (h : M.okF W H G P s cx cy = true) : M.svalid s = true := by
  unfold M.okF at h; rw [Bool.and_eq_true] at h; exact h.1

theorem ret_bi {a b : Bool} {z : Int} (h : a = b) : Ending.returned (.tuple #[.bool a, .int .i64 z]) = .returned (.tuple #[.bool b, .int .i64 z]) := by rw [h]
theorem threshold_ok (b : Int) (w : World) (h : b = 1 ∨ b = 2 ∨ b = 3) : Calls Tryz.prog 8 #[.int .i64 b] w fun e w' => e = .returned (.tuple #[.int .i64 (M.thr b), .int .i64 0]) ∧ w = w' := by
  rcases h with rfl | rfl | rfl
  all_goals
    go_enter Tryz.func8, Tryz.ntmps8
    go_wp2_with fail
    go_ret2
    exact ⟨rfl, rfl⟩

set_option maxHeartbeats 4000000 in
theorem covers_ok (W H : Int) (GA PA : Option Addr) (gc pc : Nat) (G P : List Int) (s : St) (A : Option Addr) (c : Nat) (cx cy : Int) (w : World) (ht : Tab w) (hg : Sl 1 icell w w.heap.size GA G) (hp : Sl 1 icell w w.heap.size PA P) (hS : Sl 1 icell w w.heap.size A s.pat)
    (hok : M.okF W H G P s cx cy = true) : Calls Tryz.prog 14 #[tv W H GA PA G.length gc P.length pc, stv s A c, cv cx cy] w fun e w' => e = .returned (.tuple #[.bool (M.cov W G s cx cy), .int .i64 0]) ∧ Below w.heap.size w w' := by
  obtain ⟨V, HW, x0, x1, x2, hB, -⟩ := boxes3 w #[.int .i64 W, .int .i64 H, .slice GA G.length gc, .slice PA P.length pc] 30 (stc s A c) 34 #[.int .i64 cx, .int .i64 cy] 36
  have hbd := M.band_in (M.okF_valid hok)
  obtain ⟨r, HR⟩ : ∃ r, Hid (M.cov W G s cx cy = r) := ⟨_, Lib.hid rfl⟩
  have HQ : Hid (decide (M.thr s.band ≤ M.field W G s cx cy) = r) := Lib.hid HR.out
  rw [HR.out]
  go_enter Tryz.func14, Tryz.ntmps14
  go_wp2_with fail
  rw [HW.out]
  refine (field_ok W H GA PA gc pc G P s A c cx cy V (ht.kept hB) ((hg.below hB).more hB.size) ((hp.below hB).more hB.size) ((hS.below hB).more hB.size) hok).mono ?_
  rintro e w1 ⟨rfl, hb1⟩
  obtain ⟨b0, b1, b2, b3, b4, b5, b6, b7⟩ := (x1.below hb1).c8
  clear b0 b1 b2 b3 b4 b5 b7
  go_wp2_with fail
  refine (threshold_ok s.band w1 hbd).mono ?_
  rintro e w2 ⟨rfl, rfl⟩
  generalize M.field W G s cx cy = F at *
  generalize M.thr s.band = T at *
  go_wp2_with fail
  go_ret2
  exact ⟨ret_bi HQ.out, after_ hB hb1⟩

set_option maxHeartbeats 4000000 in
theorem covers_no (W H : Int) (GA PA : Option Addr) (gc pc : Nat) (G P : List Int) (s : St) (A : Option Addr) (c : Nat) (cx cy : Int) (w : World) (hg : Sl 1 icell w w.heap.size GA G) (hp : Sl 1 icell w w.heap.size PA P) (hS : Sl 1 icell w w.heap.size A s.pat)
    (h1 : G.length ≤ 9223372036854775806) (h2 : P.length ≤ 9223372036854775806) (h3 : s.pat.length ≤ 9223372036854775806)
    (hok : M.okF W H G P s cx cy = false) : Calls Tryz.prog 14 #[tv W H GA PA G.length gc P.length pc, stv s A c, cv cx cy] w fun e w' => e = .returned (.tuple #[.bool false, .int .i64 2]) ∧ Below w.heap.size w w' := by
  obtain ⟨V, HW, x0, x1, x2, hB, -⟩ := boxes3 w #[.int .i64 W, .int .i64 H, .slice GA G.length gc, .slice PA P.length pc] 30 (stc s A c) 34 #[.int .i64 cx, .int .i64 cy] 36
  go_enter Tryz.func14, Tryz.ntmps14
  go_wp2_with fail
  rw [HW.out]
  refine (field_no W H GA PA gc pc G P s A c cx cy V ((hg.below hB).more hB.size) ((hp.below hB).more hB.size) ((hS.below hB).more hB.size) h1 h2 h3 hok).mono ?_
  rintro e w1 ⟨rfl, hb1⟩
  go_wp2_with fail
  go_ret2
  exact ⟨rfl, after_ hB hb1⟩

/-- The station and the terrain that a closure has captured. -/
structure Capt (w : World) (bt bs : Nat) (W H : Int) (GA PA : Option Addr) (gc pc : Nat) (G P : List Int) (s : St) (A : Option Addr) (c : Nat) : Prop where
  bt : Box w bt #[.int .i64 W, .int .i64 H, .slice GA G.length gc, .slice PA P.length pc] 30
  bs : Box w bs (stc s A c) 34
  g : Sl 1 icell w w.heap.size GA G
  p : Sl 1 icell w w.heap.size PA P
  s1 : Sl 1 icell w w.heap.size A s.pat
  tab : Tab w
theorem Capt.below {w w' : World} {bt bs : Nat} {W H : Int} {GA PA : Option Addr} {gc pc : Nat} {G P : List Int} {s : St} {A : Option Addr} {c : Nat} (h : Capt w bt bs W H GA PA gc pc G P s A c) (hb : Below w.heap.size w w') : Capt w' bt bs W H GA PA gc pc G P s A c :=
  ⟨h.bt.below hb, h.bs.below hb, (h.g.below hb).more hb.size, (h.p.below hb).more hb.size, (h.s1.below hb).more hb.size, h.tab.kept hb⟩

set_option maxHeartbeats 4000000 in
theorem cov1_ok {w : World} {bt bs : Nat} {W H : Int} {GA PA : Option Addr} {gc pc : Nat} {G P : List Int} {s : St} {A : Option Addr} {c : Nat} (h : Capt w bt bs W H GA PA gc pc G P s A c) (cx cy : Int) (hok : M.okF W H G P s cx cy = true) :
    Calls Tryz.prog 61 #[cv cx cy, .pointer (some ⟨bt, 0, none⟩), .pointer (some ⟨bs, 0, none⟩)] w fun e w' => e = .returned (.bool (M.cov W G s cx cy)) ∧ Below w.heap.size w w' := by
  obtain ⟨V, HW, x0, hB, -⟩ := boxes1 w #[.int .i64 cx, .int .i64 cy] 36
  have h1 := h.below hB
  obtain ⟨r, HR⟩ : ∃ r, Hid (M.cov W G s cx cy = r) := ⟨_, Lib.hid rfl⟩
  rw [HR.out]
  obtain ⟨c0, c1, c2, c3⟩ := h1.bt.c4
  obtain ⟨b0, b1, b2, b3, b4, b5, b6, b7⟩ := h1.bs.c8
  obtain ⟨d0, d1⟩ := x0.c2
  have hV := HW.out
  go_enter Tryz.func61, Tryz.ntmps61
  go_wp2_with fail
  clear hV
  refine (covers_ok W H GA PA gc pc G P s A c cx cy V h1.tab h1.g h1.p h1.s1 hok).mono ?_
  rintro e w1 ⟨rfl, hb1⟩
  rw [HR.out]
  go_wp2_with fail
  go_ret
  exact ⟨rfl, after_ hB hb1⟩
end Go.Proofs.YtihepapjopcagaaGreatDoor
end

/- Layer 14: the closures of cells. -/
section
namespace Go.Proofs.YtihepapjopcagaaGreatDoor
open Go Go.RowKit
set_option maxRecDepth 100000

/-- A cell that holds a value as it is. -/
def vcell (v : Value) (_ : Nat) : Value := v
/-- The closure that coveredBy makes. -/
def fv (bt bs : Nat) : Value := .func (.func 61) #[] #[.pointer (some ⟨bt, 0, none⟩), .pointer (some ⟨bs, 0, none⟩)]
/-- The closure 'refuses'. -/
def rv (bc : Nat) : Value := .func (.func 59) #[] #[.pointer (some ⟨bc, 0, none⟩)]

theorem hmfA : ∀ (fn : Fn) (first cap : Array Value) (w : World), (Instr.makeFunc fn first cap).run Tryz.prog w = .ok (.func fn first cap) w := fun _ _ _ _ => rfl

set_option maxHeartbeats 4000000 in
theorem refuses_ok {w : World} {bt bs : Nat} {W H : Int} {GA PA : Option Addr} {gc pc : Nat} {G P : List Int} {s : St} {A : Option Addr} {c : Nat} (h : Capt w bt bs W H GA PA gc pc G P s A c) (bc : Nat) (cx cy : Int) (hc : Box w bc #[.int .i64 cx, .int .i64 cy] 36) (hok : M.okF W H G P s cx cy = true) :
    Calls Tryz.prog 59 #[fv bt bs, .pointer (some ⟨bc, 0, none⟩)] w fun e w' => e = .returned (.bool (!M.cov W G s cx cy)) ∧ Below w.heap.size w w' := by
  obtain ⟨d0, d1⟩ := hc.c2
  have k := cov1_ok h cx cy hok
  generalize M.cov W G s cx cy = r at *
  unfold fv
  go_enter Tryz.func59, Tryz.ntmps59
  go_wp2_with fail
  refine k.mono ?_
  rintro e w1 ⟨rfl, hb1⟩
  go_wp2_with fail
  go_ret
  exact ⟨rfl, hb1⟩

set_option maxHeartbeats 4000000 in
theorem indexFunc_ok {w : World} {bt bs : Nat} {W H : Int} {GA PA : Option Addr} {gc pc : Nat} {G P : List Int} {s : St} {A : Option Addr} {c : Nat} (h : Capt w bt bs W H GA PA gc pc G P s A c) (bc : Nat) (cx cy : Int) (hc : Box w bc #[.int .i64 cx, .int .i64 cy] 36) (hok : M.okF W H G P s cx cy = true) (ca : Option Addr) (cc : Nat) (hca : Sl 1 vcell w w.heap.size ca [fv bt bs]) :
    Calls Tryz.prog 81 #[.slice ca 1 cc, rv bc] w fun e w' => e = .returned (.int .i64 (if M.cov W G s cx cy then -1 else 0)) ∧ Below w.heap.size w w' := by
  have k := refuses_ok h bc cx cy hc hok
  obtain ⟨ad, rfl, hab, hcell⟩ := hca 0 (by simp)
  have hc0 := hcell 0 (by decide)
  rw [show ad.add (0 * 1 + 0) = ad by simp [Addr.add]] at hc0
  replace hc0 : w.cell? ad = some (fv bt bs) := hc0
  clear hcell
  generalize M.cov W G s cx cy = r at *
  unfold rv
  go_enter Tryz.func81, Tryz.ntmps81
  go_wp2_with fail
  go_loopw [5, 8] (fun _ i wr => (i = .int .i64 0 ∧ wr = w) ∨ (i = .int .i64 1 ∧ r = true ∧ Below w.heap.size w wr)) (fun _ i _ => 1 - (intOf i).toNat)
  case atStart => exact .inl ⟨rfl, rfl⟩
  case round =>
    rcases hrel with ⟨rfl, rfl⟩ | ⟨rfl, rfl, hB⟩
    · go_wp2_with fail
      refine k.mono ?_
      rintro e w1 ⟨rfl, hb1⟩
      cases r
      · go_wp2_with fail
        go_ret
        exact ⟨rfl, hb1⟩
      · go_wp2_with fail
        go_roundw
        case rel => exact .inr ⟨rfl, trivial, hb1⟩
        case measure => simp [intOf]
    · go_wp2_with fail
      go_ret
      exact ⟨rfl, hB⟩

set_option maxHeartbeats 4000000 in
theorem containsFunc_ok {w : World} {bt bs : Nat} {W H : Int} {GA PA : Option Addr} {gc pc : Nat} {G P : List Int} {s : St} {A : Option Addr} {c : Nat} (h : Capt w bt bs W H GA PA gc pc G P s A c) (bc : Nat) (cx cy : Int) (hc : Box w bc #[.int .i64 cx, .int .i64 cy] 36) (hok : M.okF W H G P s cx cy = true) (ca : Option Addr) (cc : Nat) (hca : Sl 1 vcell w w.heap.size ca [fv bt bs]) :
    Calls Tryz.prog 60 #[.slice ca 1 cc, rv bc] w fun e w' => e = .returned (.bool (!M.cov W G s cx cy)) ∧ Below w.heap.size w w' := by
  have k := indexFunc_ok h bc cx cy hc hok ca cc hca
  generalize M.cov W G s cx cy = r at *
  cases r
  all_goals
    go_enter Tryz.func60, Tryz.ntmps60
    go_wp2_with fail
    refine k.mono ?_
    rintro e w1 ⟨rfl, hb1⟩
    go_wp2_with fail
    go_ret
    exact ⟨rfl, hb1⟩

set_option maxHeartbeats 4000000 in
theorem coveredBy_ok (W H : Int) (GA PA : Option Addr) (gc pc : Nat) (G P : List Int) (s : St) (A : Option Addr) (c : Nat) (w : World) :
    Calls Tryz.prog 40 #[tv W H GA PA G.length gc P.length pc, stv s A c] w fun e w' => e = .returned (fv w.heap.size (w.heap.size + 1)) ∧ Below w.heap.size w w' ∧ w'.heap.size = w.heap.size + 2 ∧ Box w' w.heap.size #[.int .i64 W, .int .i64 H, .slice GA G.length gc, .slice PA P.length pc] 30 ∧ Box w' (w.heap.size + 1) (stc s A c) 34 := by
  obtain ⟨V, HW, x0, x1, hB, hs⟩ := boxes2 w #[.int .i64 W, .int .i64 H, .slice GA G.length gc, .slice PA P.length pc] 30 (stc s A c) 34
  have HS := Lib.hid hs
  clear hs
  have hmf := hmfA
  go_enter Tryz.func40, Tryz.ntmps40
  go_wp2_with fail
  rw [HW.out]
  go_ret
  exact ⟨rfl, hB, HS.out, x0, x1⟩

/-- What the iterator has captured. -/
def cvv (b1 b2 : Nat) : Value := .func (.func 58) #[] #[.pointer (some ⟨b1, 0, none⟩), .pointer (some ⟨b2, 0, none⟩)]
set_option maxHeartbeats 4000000 in
theorem cells_ok (W H : Int) (GA PA : Option Addr) (gc pc gl pl : Nat) (ca : Option Addr) (cn cc : Nat) (w : World) :
    Calls Tryz.prog 39 #[tv W H GA PA gl gc pl pc, .slice ca cn cc] w fun e w' => e = .returned (cvv w.heap.size (w.heap.size + 1)) ∧ Below w.heap.size w w' ∧ w'.heap.size = w.heap.size + 2 ∧ Box w' w.heap.size #[.int .i64 W, .int .i64 H, .slice GA gl gc, .slice PA pl pc] 30 ∧ Box w' (w.heap.size + 1) #[.slice ca cn cc] 95 := by
  obtain ⟨V, HW, x0, x1, hB, hs⟩ := boxes2 w #[.int .i64 W, .int .i64 H, .slice GA gl gc, .slice PA pl pc] 30 #[.slice ca cn cc] 95
  have HS := Lib.hid hs
  clear hs
  have hmf := hmfA
  go_enter Tryz.func39, Tryz.ntmps39
  go_wp2_with fail
  rw [HW.out]
  go_ret
  exact ⟨rfl, hB, HS.out, x0, x1⟩
end Go.Proofs.YtihepapjopcagaaGreatDoor
end

/- slices.AppendSeq and slices.Collect at ints, over an iterator that reads what lay ahead of the call. Turned from the kit's worked proof (Shelf/SlIterI/Collect). -/
section
namespace Go.Proofs.YtihepapjopcagaaGreatDoor
open Go Go.RowKit Go.Maps Go.Sort Go.Shelf
set_option maxRecDepth 100000

abbrev encI (x : Int) : Value := .int .i64 x
/-- An iterator that reads what lay ahead of its making: the caller's invariant says that it lies unturned. -/
def SeqBel (F : Fence) (n : Nat) (P : Program) (g : Nat) (lb : Array Value) (enc : Int → Value) (S : List Int → Prop) (N : Nat) (w : World) : Prop :=
  ∀ (l : Nat) (J : List Int → World → Prop) (W : World), Below w.heap.size w W → AbidesFrom W.heap.size J → (∀ pre W1, J pre W1 → Below w.heap.size w W1) →
    (∀ pre x W1, J pre W1 → pre.length < N → YieldAt F (n - 1) P l #[enc x] W1 fun e W' => e = .returned (.bool true) ∧ J (pre ++ [x]) W' ∧ KeepsWalks W1 W') →
    J [] W →
    CallsIn F n P g (#[.func (.yield l) #[] #[]] ++ lb) W fun e W' => (∃ v, e = .returned v) ∧ ∃ xs, S xs ∧ J xs W'

def apAssign : Code := (Code.region 2 #[{ dst := some 5, op := Op.assign (Operand.tmp 7), type := 3, pos := "iter.go:51", after := #[], guard := none }] false)
def apBody : Code := (Code.block 1 (Code.region 3 #[{ dst := some 8, op := Op.load (28) (Operand.tmp 2), type := 28, pos := "iter.go:52", after := #[], guard := none }, { dst := some 9, op := Op.move (Operand.tmp 5), type := 3, pos := "iter.go:52", after := #[], guard := none }, { dst := some 10, op := Op.buildSlice (28) 1 #[(0, Operand.tmp 9)], type := 28, pos := "iter.go:52", after := #[{ on := 1, ground := Ground.data }], guard := none }, { dst := some 11, op := Op.call { callee := Callee.builtin Builtin.append, args := #[Operand.tmp 8, Operand.tmp 10], argTypes := #[28, 28] }, type := 28, pos := "iter.go:52", after := #[{ on := 0, ground := Ground.data }, { on := 2, ground := Ground.data }], guard := none }, { dst := none, op := Op.store (28) (Operand.tmp 2) (Operand.tmp 11), type := 0, pos := "iter.go:52", after := #[{ on := 3, ground := Ground.data }, { on := 3, ground := Ground.chain }, { on := 0, ground := Ground.phase }, { on := 1, ground := Ground.phase }, { on := 2, ground := Ground.phase }, { on := 3, ground := Ground.phase }], guard := none }] false))
def apRec (fn : FuncId) (sv : Value) (Bs D : Nat) (st : LoopState) (pend : Option Code) : Loop :=
  { state := st, pending := pend, fn, tmps := #[.slice none 0 0, sv, .pointer (some ⟨Bs, 0, none⟩), undef, .slice none 0 0, undef, sv, undef, undef, undef, undef, undef, undef], params := #[7], assign := apAssign, body := apBody, defers := D }

structure ApAt (w0 : World) (fn : FuncId) (sv : Value) (Bs l D : Nat) (ss : List Int) (W : World) : Prop where
  box : ∃ v, W.heap[Bs]? = some (.cells #[v] (28) (0, 0)) ∧ W.ownsRow w0.heap.size (3) 1 v ss.length (ss.map encI) ∧ (v = .slice none 0 0 ↔ ss = [])
  L : W.heap[l]? = some (.loop (apRec fn sv Bs D .ready none))
  K : W.heap[D]? = some (.deferred (some []))
  below : Below w0.heap.size w0 W

theorem ap_abides (w0 : World) (fn : FuncId) (sv : Value) (Bs l D B : Nat) (hB : w0.heap.size ≤ B) : AbidesFrom B (ApAt w0 fn sv Bs l D) := fun s W W' row h hg hrow => by
  have hrow' : ∀ r, row = some r → ∃ o : Obj, W.heap[r]? = some o ∧ o.isWalk = true := fun r e => (hrow r e).2
  obtain ⟨v, hv, hr, hn⟩ := h.box
  exact ⟨⟨v, (grownBy_keeps hg hrow' hv rfl).trans hv, ownsRow_abides_a hr hg hrow', hn⟩, (grownBy_keeps hg hrow' h.L rfl).trans h.L, (grownBy_keeps hg hrow' h.K rfl).trans h.K,
    h.below.grown hg h.below.size (fun k e => Nat.le_trans hB (hrow k e).1)⟩

set_option maxRecDepth 100000 in
set_option maxHeartbeats 2000000 in
theorem apYield (F : Fence) (m : Nat) (w0 : World) (fn : FuncId) (hfn : F.fn fn) (sv : Value) (Bs l D : Nat) (hBl : Bs ≠ l) (hDl : D ≠ l) (hDB : D ≠ Bs) (h0B : w0.heap.size ≤ Bs) (h0l : w0.heap.size ≤ l)
    (N : Nat) (hN : N ≤ maxLen) (hNb : N * 8 ≤ 140737488355328) (ss : List Int) (x : Int) (W : World) (h : ApAt w0 fn sv Bs l D ss W) (hlen : ss.length < N) :
    YieldAt F m Tryz.prog l #[encI x] W fun e W' => e = .returned (.bool true) ∧ ApAt w0 fn sv Bs l D (ss ++ [x]) W' ∧ KeepsWalks W W' := by
  have hne : 28 ≠ 3 := by decide
  obtain ⟨i0, hi, hz0, hz1, hz2⟩ := info_parts intInfo
  obtain ⟨v, hv, hrow, _⟩ := h.box
  refine ⟨fn, #[.slice none 0 0, sv, .pointer (some ⟨Bs, 0, none⟩), undef, .slice none 0 0, undef, sv, encI x, undef, undef, undef, undef, undef], apAssign, apBody, by simpa [apRec] using run_yield (P := Tryz.prog) (args := #[encI x]) h.L rfl, roundIn_of_wpIn hfn ?_⟩
  have hl : l < W.heap.size := (Array.getElem?_eq_some_iff.1 h.L).1
  have hbr := run_beginRound (P := Tryz.prog) h.L rfl
  obtain ⟨W2, hW2⟩ : ∃ W2, W.putObj l (.loop { apRec fn sv Bs D .ready none with state := .busy }) = W2 := ⟨_, rfl⟩
  rw [hW2] at hbr
  have hg2 : W.grownBy W2 (some l) := by rw [← hW2]; exact grownBy_putObj_a _ _ _
  have hk2 : KeepsWalks W W2 := by rw [← hW2]; exact KeepsWalks.putObj _ h.L rfl
  have hv2 : W2.heap[Bs]? = some (.cells #[v] (28) (0, 0)) := by rw [← hW2]; exact (World.putObj_heap_other hBl).trans hv
  have hK2 : W2.heap[D]? = some (.deferred (some [])) := by rw [← hW2]; exact (World.putObj_heap_other hDl).trans h.K
  have hL2 : W2.heap[l]? = some (.loop { apRec fn sv Bs D .ready none with state := .busy }) := by rw [← hW2]; exact World.putObj_heap_same hl
  have hrow2 : W2.ownsRow w0.heap.size (3) 1 v ss.length (ss.map encI) := hrow.kept hg2 (ownsRow_ne_a hrow h.L (fun cur e => by first | cases e | exact hne (Obj.cells.inj e).2.1))
  have hb2 : Below w0.heap.size w0 W2 := h.below.grown hg2 h.below.size (fun k e => by cases e; exact h0l)
  obtain ⟨hc2, hf2⟩ := cell_of_box_a hv2
  have hBlt : Bs < W2.heap.size := (Array.getElem?_eq_some_iff.1 hv2).1
  have hl2 : l < W2.heap.size := (Array.getElem?_eq_some_iff.1 hL2).1
  have hDlt : D < W2.heap.size := (Array.getElem?_eq_some_iff.1 hK2).1
  have ne_of : ∀ {j : Nat} {o : Obj}, W2.heap[j]? = some o → (∀ cur, o ≠ .cells cur (3) (0, 0)) → some j ≠ v.ownBlock := fun hj hno => by
    rcases ownsRow_ne_a hrow2 hj hno with e | e
    · rw [e]; simp
    · exact fun e' => e e'.symm
  clear hW2
  unfold apAssign
  gi_wp2_with (rw [Oper.semAt_eq _ _ _ (fun c h => by cases h)]; go_simp; try go_bits)
  unfold apBody
  gi_wp2_with (first
    | (gi_at_builtin; refine wpListIn_append_own _ rfl _ _ (28) rfl w0.heap.size (3) i0 (.int .i64 0) 1 8 Tryz.underlying28 hi hz0 hz1 hz2 rfl (by decide) _ _ _ rfl (hrow2.alloc _) ⟨W2.heap.size, 0, none⟩ 1 1 [encI x] rfl rfl (cell_one_new _ _ _) (by simp [Value.oneCell', encI]) (by omega) (by omega) (by have := hb2.size; simp; omega) ?_; intro v' w3 hown' hg3 hnil3
       have hv3 : w3.heap[Bs]? = some (.cells #[v] (28) (0, 0)) := (hg3.block Bs (by simp; omega) (ne_of hv2 (fun cur e => by first | cases e | exact hne (Obj.cells.inj e).2.1))).trans ((Below.heap_alloc _ _ Bs hBlt).trans hv2)
       obtain ⟨hc3, hf3⟩ := cell_of_box_a hv3
       obtain ⟨g', cap', cur', rfl, hbase', hgb', hr1, hr2, hr3, hr4⟩ : ∃ g' cap' cur', v' = .slice (some ⟨g', 0, none⟩) (ss.length + 1) cap' ∧ w0.heap.size ≤ g' ∧ w3.heap[g']? = some (.cells cur' (3) (0, 0)) ∧ ss.length + 1 ≤ cap' ∧ cap' ≤ maxLen ∧ cur'.size = cap' * 1 ∧ cur'.toList.take ((ss.length + 1) * 1) = ss.map encI ++ [encI x] := by
         rcases hown'.2 with ⟨_, h0⟩ | h'
         · exact absurd h0 (by omega)
         · exact h'
       go_frame)
    | (rw [Oper.semAt_eq _ _ _ (fun c h => by cases h)]; go_simp; try go_bits))
  have hg3' : (W2.alloc (.cells #[encI x] (3))).grownBy w3 v.ownBlock := hg3
  have hL3 : w3.heap[l]? = some (.loop { apRec fn sv Bs D .ready none with state := .busy }) := (hg3'.block l (by simp; omega) (ne_of hL2 (fun cur e => by first | cases e | exact hne (Obj.cells.inj e).2.1))).trans ((Below.heap_alloc _ _ l hl2).trans hL2)
  have hK3 : w3.heap[D]? = some (.deferred (some [])) := (hg3'.block D (by simp; omega) (ne_of hK2 (fun cur e => by first | cases e | exact hne (Obj.cells.inj e).2.1))).trans ((Below.heap_alloc _ _ D hDlt).trans hK2)
  obtain ⟨w4, hw4⟩ : ∃ w4, w3.setCell ⟨Bs, 0, none⟩ (.slice (some ⟨g', 0, none⟩) (ss.length + 1) cap') = w4 := ⟨_, rfl⟩
  rw [hw4]
  have hg4 : w3.grownBy w4 (some Bs) := by rw [← hw4]; exact grownBy_setCell0_a _ _ _
  have hv4 : w4.heap[Bs]? = some (.cells #[.slice (some ⟨g', 0, none⟩) (ss.length + 1) cap'] (28) (0, 0)) := by rw [← hw4]; exact heap_setCell_box_a _ hv3
  have hL4 : w4.heap[l]? = some (.loop { apRec fn sv Bs D .ready none with state := .busy }) := (hg4.block l (Array.getElem?_eq_some_iff.1 hL3).1 (fun e => hBl (by cases e; rfl))).trans hL3
  have hK4 : w4.heap[D]? = some (.deferred (some [])) := (hg4.block D (Array.getElem?_eq_some_iff.1 hK3).1 (fun e => hDB (by cases e; rfl))).trans hK3
  have hrow4 := hown'.kept hg4 (ownsRow_ne_a hown' hv3 (fun cur e => by first | cases e | exact hne (Obj.cells.inj e).2.1))
  have hl4 : l < w4.heap.size := (Array.getElem?_eq_some_iff.1 hL4).1
  have hb3 : Below w0.heap.size w0 w3 := (hb2.alloc hb2.size _).grown hg3' (by have := hb2.size; simp; omega) (fun k e => (hrow2.lt k e).1)
  have hb4 : Below w0.heap.size w0 w4 := hb3.grown hg4 hb3.size (fun k e => by cases e; exact h0B)
  have hk4 : KeepsWalks W w4 := ((hk2.trans (KeepsWalks.alloc _ _)).trans (KeepsWalks.of_grownBy hg3' (ownsRow_not_walk_a (hrow2.alloc _)))).trans (by rw [← hw4]; exact KeepsWalks.setCell _ _ _)
  clear hw4
  refine ⟨_, _, run_endRound none hL4, rfl, ⟨⟨_, (World.putObj_heap_other hBl).trans hv4, ?_, by simp⟩, World.putObj_heap_same hl4, (World.putObj_heap_other hDl).trans hK4, hb4.grown (grownBy_putObj_a _ _ _) hb4.size (fun k e => by cases e; exact h0l)⟩, hk4.trans (KeepsWalks.putObj _ hL4 rfl)⟩
  have := hrow4.kept (grownBy_putObj_a w4 l (.loop { { apRec fn sv Bs D .ready none with state := .busy } with state := if (none : Option Code).isNone then .ready else .done, pending := none })) (ownsRow_ne_a hrow4 hL4 (fun cur e => by first | cases e | exact hne (Obj.cells.inj e).2.1))
  simpa using this


set_option maxRecDepth 100000 in
set_option maxHeartbeats 2000000 in
theorem appendSeq_in (F : Fence) (n : Nat) (h11 : F.fn 57) (hro : F.round = none) (hn : 2 ≤ n) (g : Nat) (lb : Array Value) (hFg : F.fn g) (eg : ∀ args w, (callFunc g args).run Tryz.prog w = .ok (.enter g args) w)
    (S : List Int → Prop) (N : Nat) (hN : N ≤ maxLen) (hNb : N * 8 ≤ 140737488355328) (w : World) (hseq : SeqBel F (n - 1) Tryz.prog g lb encI S N w) :
    CallsIn F n Tryz.prog 57 #[.slice none 0 0, .func (.func g) #[] lb] w fun e w' => ∃ (v : Value) (ss : List Int), e = .returned v ∧ S ss ∧ w'.ownsRow w.heap.size (3) 1 v ss.length (ss.map encI) ∧ (v = .slice none 0 0 ↔ ss = []) ∧ Below w.heap.size w w' := by
  have h1 : 1 ≤ n := by omega
  have hne : 28 ≠ 3 := by decide
  refine callsIn_of_wp_marks Tryz.func57 rfl h11 ?_ hro
  simp only [Tryz.ntmps57, List.size_toArray, List.length_cons, List.length_nil, Nat.reduceAdd, Nat.reduceSub, Array.replicate_succ, Array.replicate_zero, List.push_toArray, List.append_toArray, List.nil_append, List.cons_append]
  gi_wp2
  refine wpIn_rangeFunc ?_
  intro fn hfn
  rw [hro]
  obtain ⟨W0, hW0⟩ : ∃ W0, w.alloc (.cells #[.slice none 0 0] (28)) = W0 := ⟨_, rfl⟩
  have hs0 : W0.heap.size = w.heap.size + 1 := by rw [← hW0]; simp
  have hv0 : W0.heap[w.heap.size]? = some (.cells #[.slice none 0 0] (28) (0, 0)) := by rw [← hW0]; exact World.alloc_heap_new w _
  have hb0 : Below w.heap.size w W0 := by rw [← hW0]; exact (Below.refl _ w).alloc (Nat.le_refl _) _
  rw [hW0]
  obtain ⟨W1, hW1⟩ : ∃ W1, (W0.alloc (.deferred (some []))).alloc (.loop (apRec fn (.func (.func g) #[] lb) w.heap.size W0.heap.size .ready none)) = W1 := ⟨_, rfl⟩
  have hold : ∀ k, k < W0.heap.size → W1.heap[k]? = W0.heap[k]? := fun k hk => by
    rw [← hW1]; exact (Below.heap_alloc _ _ k (by simp; omega)).trans (Below.heap_alloc _ _ k hk)
  have hb1 : Below w.heap.size w W1 := by rw [← hW1]; exact (hb0.alloc hb0.size _).alloc (by have := hb0.size; simp; omega) _
  have hs1 : W1.heap.size = W0.heap.size + 2 := by rw [← hW1]; simp
  have hM : ApAt w fn (.func (.func g) #[] lb) w.heap.size (W0.heap.size + 1) W0.heap.size [] W1 :=
    ⟨⟨_, (hold w.heap.size (by omega)).trans hv0, ⟨rfl, .inl ⟨rfl, rfl⟩⟩, by simp⟩,
     by rw [← hW1]; have := World.alloc_heap_new (W0.alloc (.deferred (some []))) (.loop (apRec fn (.func (.func g) #[] lb) w.heap.size W0.heap.size .ready none)); rwa [World.size_alloc] at this,
     by rw [← hW1]; exact (Below.heap_alloc _ _ _ (by simp)).trans (World.alloc_heap_new W0 _), hb1⟩
  refine ⟨W0.heap.size + 1, [{ target := .collected W0.heap.size, args := #[] }], W1, { target := .fn (.func g) lb, args := #[.func (.yield (W0.heap.size + 1)) #[] #[]] }, W1, g,
    #[.func (.yield (W0.heap.size + 1)) #[] #[]] ++ lb, W1, ?_, ?_, ?_, ?_, fun _ => h1, ?_⟩
  · rw [← hW1]; exact run_enterLoop_outer _ _ _ _ _
  · simp [resolve, go_sem]
  · intro f' hf'; simp [Target.leads] at hf'; subst hf'; exact hFg
  · simp [invoke, go_sem, eg]
  · refine (hseq (W0.heap.size + 1) (ApAt w fn (.func (.func g) #[] lb) w.heap.size (W0.heap.size + 1) W0.heap.size) W1 hb1 (ap_abides _ _ _ _ _ _ _ hb1.size) (fun pre W1 h => h.below)
      (fun pre x W hJ hl => apYield F (n - 1 - 1) w fn hfn _ w.heap.size (W0.heap.size + 1) W0.heap.size (by omega) (by omega) (by omega) (Nat.le_refl _) (by omega) N hN hNb pre x W hJ hl) hM).mono ?_
    rintro e W2 ⟨⟨v0, rfl⟩, ss, hS, h2⟩
    obtain ⟨v, hv, hrow, hnil⟩ := h2.box
    have hend := run_endLoop (P := Tryz.prog) h2.L (by simp [apRec])
    obtain ⟨W3, hW3⟩ : ∃ W3, W2.putObj (W0.heap.size + 1) (.loop { apRec fn (.func (.func g) #[] lb) w.heap.size W0.heap.size .ready none with state := .exhausted }) = W3 := ⟨_, rfl⟩
    rw [hW3] at hend
    have hg3 : W2.grownBy W3 (some (W0.heap.size + 1)) := by rw [← hW3]; exact grownBy_putObj_a _ _ _
    have hv3 : W3.heap[w.heap.size]? = some (.cells #[v] (28) (0, 0)) := by rw [← hW3]; exact (World.putObj_heap_other (by omega)).trans hv
    have hK3 : W3.heap[W0.heap.size]? = some (.deferred (some [])) := by rw [← hW3]; exact (World.putObj_heap_other (by omega)).trans h2.K
    have hrow3 := hrow.kept hg3 (ownsRow_ne_a hrow h2.L (fun cur e => by first | cases e | exact hne (Obj.cells.inj e).2.1))
    have hb3 : Below w.heap.size w W3 := h2.below.grown hg3 h2.below.size (fun k e => by cases e; omega)
    obtain ⟨hc3, hf3⟩ := cell_of_box_a hv3
    clear hW3
    refine ⟨none, W3, hend, ?_⟩
    gi_wp2
    rw [← hs0]
    refine ⟨by simp, .inl ⟨_, _, rfl, run_takeDeferred hK3, ?_⟩⟩
    exact ⟨_, results_tmp rfl _ _ _, v, ss, rfl, hS, hrow3.kept (grownBy_putObj_a _ _ _) (ownsRow_ne_a hrow3 hK3 (fun cur e => by first | cases e | exact hne (Obj.cells.inj e).2.1)), hnil, hb3.grown (grownBy_putObj_a _ _ _) hb3.size (fun k e => by cases e; omega)⟩


set_option maxHeartbeats 1000000 in
theorem collect_in (F : Fence) (n : Nat) (h8 : F.fn 38) (h11 : F.fn 57) (hro : F.round = none) (hn : 3 ≤ n) (g : Nat) (lb : Array Value) (hFg : F.fn g) (eg : ∀ args w, (callFunc g args).run Tryz.prog w = .ok (.enter g args) w)
    (S : List Int → Prop) (N : Nat) (hN : N ≤ maxLen) (hNb : N * 8 ≤ 140737488355328) (w : World) (hseq : SeqBel F (n - 1 - 1) Tryz.prog g lb encI S N w) :
    CallsIn F n Tryz.prog 38 #[.func (.func g) #[] lb] w fun e w' => ∃ (v : Value) (ss : List Int), e = .returned v ∧ S ss ∧ w'.ownsRow w.heap.size (3) 1 v ss.length (ss.map encI) ∧ (v = .slice none 0 0 ↔ ss = []) ∧ Below w.heap.size w w' := by
  have h1 : 1 ≤ n := by omega
  have e11 : ∀ args w, (callFunc 57 args).run Tryz.prog w = .ok (.enter 57 args) w := enters_of Tryz.func57 (by kernel_rfl) rfl
  refine callsIn_of_wp Tryz.func38 rfl h8 ?_ hro
  simp only [Tryz.ntmps38, List.size_toArray, List.length_cons, List.length_nil, Nat.reduceAdd, Nat.reduceSub, Array.replicate_succ, Array.replicate_zero, List.push_toArray, List.append_toArray, List.nil_append, List.cons_append]
  gi_wp2_with (gi_at_fn 57; refine (appendSeq_in F (n - 1) h11 hro (by omega) g lb hFg eg S N hN hNb _ hseq).mono ?_; rintro e w' ⟨v, ss, rfl, hS, hrow, hnil, hb⟩)
  go_ret
  exact ⟨v, ss, rfl, hS, hrow, hnil, hb⟩

end Go.Proofs.YtihepapjopcagaaGreatDoor
end

/- Layer 14: the iterator of cells. -/
section
namespace Go.Proofs.YtihepapjopcagaaGreatDoor
open Go Go.RowKit Go.Shelf
set_option maxRecDepth 100000

/-- The cell with an index. -/
def M.cx (W : Int) (i : Nat) : Int := (i : Int) % W
def M.cy (W : Int) (i : Nat) : Int := (i : Int) / W
/-- The indexes of the cells among the first n that a station covers. -/
def M.areaTo (W : Int) (G : List Int) (s : St) (n : Nat) : List Int := ((List.range n).filter fun (i : Nat) => M.cov W G s (M.cx W i) (M.cy W i)).map fun (i : Nat) => (i : Int)
def M.area (W H : Int) (G : List Int) (s : St) : List Int := M.areaTo W G s (W * H).toNat
theorem M.areaTo_succ (W : Int) (G : List Int) (s : St) (n : Nat) : M.areaTo W G s (n + 1) = M.areaTo W G s n ++ if M.cov W G s (M.cx W n) (M.cy W n) then [(n : Int)] else [] := by
  unfold M.areaTo
  rw [List.range_succ, List.filter_append, List.map_append]
  congr 1
  by_cases h : M.cov W G s (M.cx W n) (M.cy W n) = true
  · simp [h]
  · simp [h]
theorem M.areaTo_len (W : Int) (G : List Int) (s : St) (n : Nat) : (M.areaTo W G s n).length ≤ n := by
  unfold M.areaTo
  rw [List.length_map]
  have := List.length_filter_le (fun i => M.cov W G s (M.cx W i) (M.cy W i)) (List.range n)
  simpa using this

/-- A station is allowed on a terrain: it is valid, and the terrain has its cell. -/
def M.okS (W H : Int) (G P : List Int) (s : St) : Bool := M.okF W H G P s s.x s.y
theorem M.okS_iff {W H : Int} {G P : List Int} {s : St} : M.okS W H G P s = true ↔ M.svalid s = true ∧ M.tvalid W H G P = true ∧ s.x < W ∧ s.y < H := by
  unfold M.okS
  rw [M.okF_eq]
  unfold M.has
  simp only [Bool.and_eq_true]
  constructor
  · rintro ⟨⟨a, b, c⟩, -⟩
    have := M.inside_iff.1 c
    exact ⟨a, b, this.1.2, this.2.2⟩
  · rintro ⟨a, b, c, d⟩
    obtain ⟨_, h2, h3, _⟩ := M.svalid_iff.1 a
    have := M.inside_iff.2 ⟨⟨h2.1, c⟩, h3.1, d⟩
    exact ⟨⟨a, b, this⟩, b, this⟩
theorem M.okS_F {W H : Int} {G P : List Int} {s : St} {cx cy : Int} (h : M.okS W H G P s = true) (h1 : 0 ≤ cx) (h2 : cx < W) (h3 : 0 ≤ cy) (h4 : cy < H) : M.okF W H G P s cx cy = true := by
  obtain ⟨a, b, c, d⟩ := M.okS_iff.1 h
  have hh : M.has W H G P cx cy = true := by
    unfold M.has
    rw [b, Bool.true_and]
    exact M.inside_iff.2 ⟨⟨h1, h2⟩, h3, h4⟩
  exact (M.okF_iff hh).2 ⟨a, c, d⟩
theorem M.cell_in {W H : Int} (h1 : 1 ≤ W) {i : Nat} (hi : (i : Int) < W * H) : (0 ≤ M.cx W i ∧ M.cx W i < W) ∧ 0 ≤ M.cy W i ∧ M.cy W i < H := by
  unfold M.cx M.cy
  refine ⟨⟨Int.emod_nonneg _ (by omega), Int.emod_lt_of_pos _ (by omega)⟩, Int.ediv_nonneg (by omega) (by omega), ?_⟩
  exact Int.ediv_lt_of_lt_mul (by omega) (by rw [Int.mul_comm]; exact hi)
theorem M.wh_le {W H : Int} (h1 : 1 ≤ W ∧ W ≤ 64) (h2 : 1 ≤ H ∧ H ≤ 64) : 1 ≤ W * H ∧ W * H ≤ 4096 := by
  have a : W * H ≤ 64 * 64 := Int.mul_le_mul h1.2 h2.2 (by omega) (by omega)
  have b : 0 < W * H := Int.mul_pos (by omega) (by omega)
  omega

theorem below_grown {w w' : World} (hb : Below w.heap.size w w') : w.grownBy w' none := ⟨hb.os, hb.tape, hb.output, hb.size, fun k hk _ => hb.block k hk⟩

set_option maxHeartbeats 16000000 in
theorem cells1_gives {w : World} {bt bs : Nat} {W H : Int} {GA PA : Option Addr} {gc pc : Nat} {G P : List Int} {s : St} {A : Option Addr} {c : Nat} (h : Capt w bt bs W H GA PA gc pc G P s A c) (b1 b2 : Nat) (hb1 : Box w b1 #[.int .i64 W, .int .i64 H, .slice GA G.length gc, .slice PA P.length pc] 30) (ca : Option Addr) (cc : Nat) (hb2 : Box w b2 #[.slice ca 1 cc] 95) (hca : Sl 1 vcell w w.heap.size ca [fv bt bs]) (hok : M.okS W H G P s = true) :
    SeqBel Fence.wide 9 Tryz.prog 58 #[.pointer (some ⟨b1, 0, none⟩), .pointer (some ⟨b2, 0, none⟩)] encI (fun xs => xs = M.area W H G s) (W * H).toNat w := by
  intro l J V hV hJ hJb hY h0
  refine callsIn_wide.2 ?_
  obtain ⟨hsv, htv, -, -⟩ := M.okS_iff.1 hok
  obtain ⟨r1, r2, -⟩ := M.tvalid_iff.1 htv
  obtain ⟨w1, w2⟩ := M.wh_le r1 r2
  obtain ⟨n, hn⟩ : ∃ n : Nat, W * H = n := ⟨(W * H).toNat, by omega⟩
  have HN := Lib.hid hn
  have HOK := Lib.hid hok
  clear hok hsv htv hn
  have hn4 : n ≤ 4096 := by have := HN.out; omega
  have HNT : Hid ((W * H).toNat = n) := Lib.hid (by have := HN.out; omega)
  rw [HNT.out] at hY
  have HA : Hid (M.area W H G s = M.areaTo W G s n) := Lib.hid (by unfold M.area; rw [HNT.out])
  have hmul : W * H = (n : Int) := HN.out
  obtain ⟨c0, c1, c2, c3⟩ := ((h.below hV).bt |> fun _ => hb1.below hV).c4
  have hmf := hmfA
  go_enter Tryz.func58, Tryz.ntmps58
  go_wp2_with fail
  clear c0 c1 c2 c3
  go_loopw [4, 5, 6, 12] (fun _ _ _ i wr => ∃ k : Nat, k ≤ n ∧ i = .int .i64 k ∧ J (M.areaTo W G s k) wr) (fun _ _ _ i _ => n - (intOf i).toNat)
  case atStart => exact ⟨0, Nat.zero_le _, rfl, h0⟩
  case round =>
    obtain ⟨k, hk, rfl, hJk⟩ := hrel
    by_cases hlt : k < n
    · have hB := hJb _ _ hJk
      have x1 := hb1.below hB
      obtain ⟨c0, c1, c2, c3⟩ := x1.c4
      obtain ⟨hin1, hin2⟩ := M.cell_in (W := W) (H := H) (i := k) (by omega) (by rw [hmul]; omega)
      have l1 := x1.lt
      have D0 : wr.drew.cell? ⟨b1, 0, none⟩ = some (.int .i64 W) := c0
      have D1 : ∀ o, (wr.alloc o).drew.cell? ⟨b1, 0, none⟩ = some (.int .i64 W) := fun o => ((((Below.refl wr.heap.size wr).alloc (Nat.le_refl _) o).drew).cell (p := ⟨b1, 0, none⟩) l1).trans c0
      have hW0 : W ≠ 0 := by omega
      clear c1 c2 c3
      refine (wpIn_wide (n := 9)).1 ?_
      gi_wp2_with fail
      refine wpIn_wide.2 ?_
      go_region_held3 (fun w' => w'.cell? ⟨b1, 0, none⟩ = some (.int .i64 W)) (first | with_reducible exact D0 | with_reducible exact c0 | exact D1 _) (fail)
      all_goals
        have e1 : (k : Int).tmod W = M.cx W k := by unfold M.cx; exact Int.tmod_eq_emod_of_nonneg (by omega)
        have e2 : IntKind.i64.wrap ((k : Int) / W) = M.cy W k := by
          have h3 : M.cy W k = (k : Int) / W := rfl
          rw [← h3]
          have : M.cy W k ≤ 64 := by omega
          generalize M.cy W k = z at *
          unfold IntKind.wrap
          simp [IntKind.bits, IntKind.signed]
          omega
        rw [e1, e2]
        obtain ⟨U, HU, u0, hBU, -⟩ := boxes1 wr #[.int .i64 (M.cx W k), .int .i64 (M.cy W k)] 36
        rw [HU.out]
        have hBD : Below wr.heap.size wr U.drew := hBU.drew
        have u1 : Box U.drew wr.heap.size #[.int .i64 (M.cx W k), .int .i64 (M.cy W k)] 36 := u0
        have B2 := after_ hB hBD
        have hc2 := (h.below hB).below hBD
        have kk := containsFunc_ok hc2 wr.heap.size (M.cx W k) (M.cy W k) u1 (M.okS_F HOK.out hin1.1 hin1.2 hin2.1 hin2.2) ca cc ((hca.below B2).more B2.size)
        have k2 := (hb2.below B2).c1
        have hJ2 : J (M.areaTo W G s k) U.drew := hJ _ _ _ none hJk (below_grown hBD) (fun r e => by cases e)
        unfold rv at kk
        have hmf := hmfA
        gi_wp2_with fail
        refine ⟨trivial, (callsIn_wide.2 kk).mono ?_⟩
        rintro e w5 ⟨rfl, hb5⟩
        have hJ5 : J (M.areaTo W G s k) w5 := hJ _ _ _ none hJ2 (below_grown hb5) (fun r e => by cases e)
        have hlen : (M.areaTo W G s k).length < n := Nat.lt_of_le_of_lt (M.areaTo_len W G s k) hlt
        cases hcv : M.cov W G s (M.cx W k) (M.cy W k) with
        | false =>
          have HS2 : Hid (M.areaTo W G s (k + 1) = M.areaTo W G s k) := Lib.hid (by rw [M.areaTo_succ, hcv]; simp)
          gi_wp2_with fail
          go_roundw
          case rel => exact ⟨k + 1, hlt, by go_num, by rw [HS2.out]; exact hJ5⟩
          case measure => simp [intOf]; omega
        | true =>
          have HS2 : Hid (M.areaTo W G s (k + 1) = M.areaTo W G s k ++ [(k : Int)]) := Lib.hid (by rw [M.areaTo_succ, hcv]; simp)
          obtain ⟨fn, tmps, assign, body, hy, hR⟩ := hY (M.areaTo W G s k) (k : Int) w5 hJ5 hlen
          clear hY
          gi_wp2_with fail
          refine hR.mono ?_
          rintro e W3 ⟨rfl, hJ3, -⟩
          gi_wp2_with fail
          go_roundw
          case rel => exact ⟨k + 1, hlt, by go_num, by rw [HS2.out]; exact hJ3⟩
          case measure => simp [intOf]; omega
    · obtain rfl : k = n := by omega
      go_wp2_with fail
      go_end0
      exact ⟨⟨_, rfl⟩, _, HA.out.symm, hJk⟩
end Go.Proofs.YtihepapjopcagaaGreatDoor
end
