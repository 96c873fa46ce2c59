/- A bundle of texts: Co3, Co9, Rf6, Rf7. -/
import Derived.Test.YtciolgmljpamlaaGreatDoorC25
import Derived.Test.YtciolgmljpamlaaGreatDoorC26
section
namespace Go.Proofs.YtciolgmljpamlaaGreatDoor
open Go Go.RowKit
set_option maxRecDepth 100000
def M.sm (W H : Int) (G P : List Int) (a b : St) : Int := M.lossO W H G P a b 1 0
def M.prF (W H : Int) (G P : List Int) (a b : St) (pa pb o : Int) : Bool := M.tooMuch pa pb (M.lossO W H G P a b (M.sm W H G P a b) o) (M.lossO W H G P b a (M.sm W H G P b a) (-o))
def M.pr1 (W H : Int) (G P : List Int) (a b : St) (pa pb lo hi : Int) : List P5 := if M.prF W H G P a b pa pb (-1) then [⟨a.id, b.id, -1, lo + 1, hi⟩] else []
def M.pr0 (W H : Int) (G P : List Int) (a b : St) (pa pb lo hi : Int) : List P5 := if M.tooMuch pa pb (M.sm W H G P a b) (M.sm W H G P b a) then [⟨a.id, b.id, 0, lo, hi⟩] else []
def M.pr2 (W H : Int) (G P : List Int) (a b : St) (pa pb lo hi : Int) : List P5 := if M.prF W H G P a b pa pb 1 then [⟨a.id, b.id, 1, lo, hi - 1⟩] else []
theorem RB.cast {w : World} {base br : Nat} {ps ls ps2 ls2 : List P5} {vP vL : Value} (h : RB w base br ps ls vP vL) (hp : ps = ps2) (hl : ls = ls2) : RB w base br ps2 ls2 vP vL := hp ▸ hl ▸ h
def M.prP (W H : Int) (G P : List Int) (a b : St) (pa pb lo hi : Int) : List P5 := M.pr1 W H G P a b pa pb lo hi ++ M.pr0 W H G P a b pa pb lo hi ++ M.pr2 W H G P a b pa pb lo hi
def M.ld (to from_ z lo hi : Int) : List P5 := if 0 < z then [⟨to, from_, z, lo, hi⟩] else []
def M.prL (W H : Int) (G P : List Int) (a b : St) (pa pb lo hi : Int) : List P5 := if M.tooMuch pa pb (M.sm W H G P a b) (M.sm W H G P b a) then [] else M.ld a.id b.id (M.sm W H G P a b) lo hi ++ M.ld b.id a.id (M.sm W H G P b a) lo hi
theorem M.lossO_bd {W H : Int} {G P : List Int} {a b : St} {same o : Int} (htv : M.tvalid W H G P = true) : 0 ≤ M.lossO W H G P a b same o ∧ M.lossO W H G P a b same o ≤ 100000000000 := by
  unfold M.lossO
  split
  · omega
  · obtain ⟨r1, r2, r3, r4, r5, r6⟩ := M.tvalid_iff.1 htv
    exact M.totl_bd r6 (Nat.le_trans (M.lost_len4 htv) (by omega))
theorem addLoad_any (to from_ z : Int) (lo hi : Int) (ba bb : Nat) (br base : Nat) (ps ls : List P5) (vP vL : Value) (w : World) (h : RB w base br ps ls vP vL) (ya : Box w ba #[.int .i64 lo] 3) (yb : Box w bb #[.int .i64 hi] 3) (hbr : br < base) (hbase : base ≤ w.heap.size) (hl : ls.length ≤ 1000) :
    Calls Tryz.prog 112 #[.int .i64 to, .int .i64 from_, .int .i64 z, .pointer (some ⟨br, 0, none⟩), .pointer (some ⟨ba, 0, none⟩), .pointer (some ⟨bb, 0, none⟩)] w fun e w' => e = .returned (.tuple #[]) ∧ ∃ v', RB w' base br ps (ls ++ M.ld to from_ z lo hi) vP v' ∧ Fr w w' br base := by
  unfold M.ld
  by_cases hz : 0 < z
  · rw [if_pos hz]
    exact addLoad_ok to from_ z lo hi ba bb br base ps ls vP vL w h ya yb hz hbr hbase hl
  · rw [if_neg hz, List.append_nil]
    exact (addLoad_no to from_ z br ba bb w hz).mono fun _ _ ⟨he, hw⟩ => ⟨he, vL, hw ▸ h, hw ▸ Fr.refl _ _ _⟩
structure PW (w0 w : World) (br base b0 b1 b2 b3 b4 b5 b6 b7 b9 : Nat) (W H : Int) (GA PA : Option Addr) (gc pc : Nat) (G P : List Int) (a b : St) (A B : Option Addr) (c d : Nat) (pa pb lo hi : Int) : Prop where
  t : Box w b0 #[.int .i64 W, .int .i64 H, .slice GA G.length gc, .slice PA P.length pc] 24
  xa : Box w b1 (stc a A c) 40
  xb : Box w b2 (stc b B d) 40
  pA : Box w b3 #[.int .i64 pa] 3
  pB : Box w b4 #[.int .i64 pb] 3
  xl : Box w b5 #[.int .i64 lo] 3
  xh : Box w b6 #[.int .i64 hi] 3
  res : Box w b7 #[.slice none 0 0, .slice none 0 0, .slice none 0 0] 30
  fl : Box w b9 #[.int .i64 0] 33
  below : Below w0.heap.size w0 w
  n0 : w0.heap.size ≤ br
  nb : br < base
  sz : base ≤ w.heap.size
  dt : b0 ≠ br ∧ b0 < base
  dxa : b1 ≠ br ∧ b1 < base
  dxb : b2 ≠ br ∧ b2 < base
  dpA : b3 ≠ br ∧ b3 < base
  dpB : b4 ≠ br ∧ b4 < base
  dxl : b5 ≠ br ∧ b5 < base
  dxh : b6 ≠ br ∧ b6 < base
  dres : b7 ≠ br ∧ b7 < base
  dfl : b9 ≠ br ∧ b9 < base
theorem PW.next {w0 w w' : World} {br base b0 b1 b2 b3 b4 b5 b6 b7 b9 : Nat} {W H : Int} {GA PA : Option Addr} {gc pc : Nat} {G P : List Int} {a b : St} {A B : Option Addr} {c d : Nat} {pa pb lo hi : Int} (h : PW w0 w br base b0 b1 b2 b3 b4 b5 b6 b7 b9 W H GA PA gc pc G P a b A B c d pa pb lo hi) (hb : Below w.heap.size w w') : PW w0 w' br base b0 b1 b2 b3 b4 b5 b6 b7 b9 W H GA PA gc pc G P a b A B c d pa pb lo hi :=
  ⟨h.t.below hb, h.xa.below hb, h.xb.below hb, h.pA.below hb, h.pB.below hb, h.xl.below hb, h.xh.below hb, h.res.below hb, h.fl.below hb, after_ h.below hb, h.n0, h.nb, Nat.le_trans h.sz hb.size, h.dt, h.dxa, h.dxb, h.dpA, h.dpB, h.dxl, h.dxh, h.dres, h.dfl⟩
theorem PW.fr {w0 w w' : World} {br base b0 b1 b2 b3 b4 b5 b6 b7 b9 : Nat} {W H : Int} {GA PA : Option Addr} {gc pc : Nat} {G P : List Int} {a b : St} {A B : Option Addr} {c d : Nat} {pa pb lo hi : Int} (h : PW w0 w br base b0 b1 b2 b3 b4 b5 b6 b7 b9 W H GA PA gc pc G P a b A B c d pa pb lo hi) (f : Fr w w' br base) : PW w0 w' br base b0 b1 b2 b3 b4 b5 b6 b7 b9 W H GA PA gc pc G P a b A B c d pa pb lo hi :=
  ⟨f.box _ _ _ h.dt.1 h.dt.2 h.t, f.box _ _ _ h.dxa.1 h.dxa.2 h.xa, f.box _ _ _ h.dxb.1 h.dxb.2 h.xb, f.box _ _ _ h.dpA.1 h.dpA.2 h.pA, f.box _ _ _ h.dpB.1 h.dpB.2 h.pB, f.box _ _ _ h.dxl.1 h.dxl.2 h.xl, f.box _ _ _ h.dxh.1 h.dxh.2 h.xh, f.box _ _ _ h.dres.1 h.dres.2 h.res, f.box _ _ _ h.dfl.1 h.dfl.2 h.fl, h.below.trans (f.below.mono h.n0), h.n0, h.nb, Nat.le_trans h.sz f.size, h.dt, h.dxa, h.dxb, h.dpA, h.dpB, h.dxl, h.dxh, h.dres, h.dfl⟩
theorem own_far {w : World} {base : Nat} {e : TypeId} {size : Nat} {A : Option Addr} {n c : Nat} {xs : List Value} (h : w.ownsRow base e size (.slice A n c) n xs) : ∀ ad, A = some ad → base ≤ ad.block := fun ad ha => by
  rcases h.2 with ⟨e1, _⟩ | ⟨g, cap, cur, e1, hb, _⟩
  · injection e1 with e2; rw [e2] at ha; cases ha
  · injection e1 with e2; rw [e2] at ha; cases ha; exact hb
theorem RB.out {w : World} {base br : Nat} {ps ls : List P5} {vP vL : Value} (h : RB w base br ps ls vP vL) : ∃ XA xc YA yc, vP = .slice XA ps.length xc ∧ vL = .slice YA ls.length yc ∧ Sl 5 p5cell w w.heap.size XA ps ∧ Sl 5 p5cell w w.heap.size YA ls ∧ (∀ ad, XA = some ad → base ≤ ad.block) ∧ (∀ ad, YA = some ad → base ≤ ad.block) := by
  obtain ⟨XA, xc, e1, S1⟩ := own_slice (by decide) h.p
  obtain ⟨YA, yc, e2, S2⟩ := own_slice (by decide) h.l
  refine ⟨XA, xc, YA, yc, e1, e2, S1, S2, ?_, ?_⟩
  · have hp := h.p
    rw [e1] at hp
    exact own_far hp
  · have hl := h.l
    rw [e2] at hl
    exact own_far hl
set_option maxHeartbeats 32000000 in
theorem pairRules_ok (W H : Int) (GA PA : Option Addr) (gc pc : Nat) (G P : List Int) (a b : St) (A B : Option Addr) (c d : Nat) (pa pb lo hi : Int) (w : World) (ht : Tab w) (hg : Sl 1 icell w w.heap.size GA G) (hp : Sl 1 icell w w.heap.size PA P) (hS : Sl 1 icell w w.heap.size A a.pat) (hT : Sl 1 icell w w.heap.size B b.pat)
    (hoa : M.okS W H G P a = true) (hob : M.okS W H G P b = true) (hpa : 0 ≤ pa ∧ pa ≤ 100000000000) (hpb : 0 ≤ pb ∧ pb ≤ 100000000000) (hlo : 0 ≤ lo ∧ lo ≤ 100) (hhi : 0 ≤ hi ∧ hi ≤ 100) :
    Calls Tryz.prog 73 #[tv W H GA PA G.length gc P.length pc, stv a A c, stv b B d, .int .i64 pa, .int .i64 pb, .int .i64 lo, .int .i64 hi] w fun e w' => ∃ XA xc YA yc, e = .returned (.tuple #[ruv XA (M.prP W H G P a b pa pb lo hi).length xc YA (M.prL W H G P a b pa pb lo hi).length yc none 0 0, .int .i64 0]) ∧ Sl 5 p5cell w' w'.heap.size XA (M.prP W H G P a b pa pb lo hi) ∧ Sl 5 p5cell w' w'.heap.size YA (M.prL W H G P a b pa pb lo hi) ∧ Below w.heap.size w w' ∧ (∀ ad, XA = some ad → w.heap.size ≤ ad.block) ∧ ∀ ad, YA = some ad → w.heap.size ≤ ad.block := by
  obtain ⟨-, htv, -, -⟩ := M.okS_iff.1 hoa
  obtain ⟨r1, r2, r3, r4, r5, r6⟩ := M.tvalid_iff.1 htv
  have hwh := M.wh_le r1 r2
  have hpa16 : a.pat.length ≤ 1000 := by rw [(M.avalid_iff.1 (M.svalid_iff.1 (M.okS_iff.1 hoa).1).2.2.2.2.2.2).2.1]; omega
  have hpb16 : b.pat.length ≤ 1000 := by rw [(M.avalid_iff.1 (M.svalid_iff.1 (M.okS_iff.1 hob).1).2.2.2.2.2.2).2.1]; omega
  have hgl : G.length ≤ 5000 := by omega
  have hpl : P.length ≤ 5000 := by omega
  clear r1 r2 r3 r4 r5 r6 hwh
  have HTV := Lib.hid htv
  clear htv
  have hlk : ∀ o, (o = 0 ∨ o = -1 ∨ o = 1) → M.lostOk W H G P a o [b] = true ∧ M.lostOk W H G P b o [a] = true := fun o ho => by
    unfold M.lostOk
    rw [M.okOff_iff.2 ho]
    simp [hoa, hob]
  obtain ⟨W1, HW1, x0, x1, x2, x3, hB1, hs1⟩ := boxes4 w #[.int .i64 W, .int .i64 H, .slice GA G.length gc, .slice PA P.length pc] 24 (stc a A c) 40 (stc b B d) 40 #[.int .i64 pa] 3
  obtain ⟨W2, HW2, x4, x5, x6, x7, hB2, hs2⟩ := boxes4 W1 #[.int .i64 pb] 3 #[.int .i64 lo] 3 #[.int .i64 hi] 3 #[.slice none 0 0, .slice none 0 0, .slice none 0 0] 30
  obtain ⟨W3, HW3, x8, x9, hB3, hs3⟩ := boxes2 W2 #[.slice none 0 0, .slice none 0 0, .slice none 0 0] 30 #[.int .i64 0] 33
  have B3 := after_ (after_ hB1 hB2) hB3
  have pw : PW w W3 W2.heap.size (W2.heap.size + 2) w.heap.size (w.heap.size + 1) (w.heap.size + 1 + 1) (w.heap.size + 1 + 1 + 1) W1.heap.size (W1.heap.size + 1) (W1.heap.size + 1 + 1) (W1.heap.size + 1 + 1 + 1) (W2.heap.size + 1) W H GA PA gc pc G P a b A B c d pa pb lo hi :=
    ⟨(x0.below hB2).below hB3, (x1.below hB2).below hB3, (x2.below hB2).below hB3, (x3.below hB2).below hB3, x4.below hB3, x5.below hB3, x6.below hB3, x7.below hB3, x9, B3, by omega, by omega, by omega, by omega, by omega, by omega, by omega, by omega, by omega, by omega, by omega, by omega⟩
  have rb : RB W3 (W2.heap.size + 2) W2.heap.size [] [] (.slice none 0 0) (.slice none 0 0) := ⟨x8, own_nil _ _ _ _ _, own_nil _ _ _ _ _⟩
  clear x0 x1 x2 x3 x4 x5 x6 x7 x8 x9 hB1 hB2 hB3 B3
  have HS1 := Lib.hid hs1
  have HS2 := Lib.hid hs2
  clear hs1 hs2 hs3
  have kL : Hid (∀ (w1 : World) (s o : Int), Below w.heap.size w w1 → (o = 0 ∨ o = -1 ∨ o = 1) → Box w1 (W2.heap.size + 1) #[.int .i64 0] 33 → Box w1 w.heap.size #[.int .i64 W, .int .i64 H, .slice GA G.length gc, .slice PA P.length pc] 24 → Calls Tryz.prog 109 #[stv a A c, stv b B d, .int .i64 s, .int .i64 o, .pointer (some ⟨W2.heap.size + 1, 0, none⟩), .pointer (some ⟨w.heap.size, 0, none⟩)] w1 fun e w' => e = .returned (.int .i64 (M.lossO W H G P a b s o)) ∧ Below w1.heap.size w1 w') := Lib.hid (fun w1 s o h1 h2 h3 h4 => lossOf_ok W H GA PA gc pc G P a b A B c d s o _ _ w1 (ht.kept h1) ((hg.below h1).more h1.size) ((hp.below h1).more h1.size) ((hS.below h1).more h1.size) ((hT.below h1).more h1.size) (by omega) (by omega) (by omega) (by omega) h3 h4 (hlk o h2).1)
  have kM : Hid (∀ (w1 : World) (s o : Int), Below w.heap.size w w1 → (o = 0 ∨ o = -1 ∨ o = 1) → Box w1 (W2.heap.size + 1) #[.int .i64 0] 33 → Box w1 w.heap.size #[.int .i64 W, .int .i64 H, .slice GA G.length gc, .slice PA P.length pc] 24 → Calls Tryz.prog 109 #[stv b B d, stv a A c, .int .i64 s, .int .i64 o, .pointer (some ⟨W2.heap.size + 1, 0, none⟩), .pointer (some ⟨w.heap.size, 0, none⟩)] w1 fun e w' => e = .returned (.int .i64 (M.lossO W H G P b a s o)) ∧ Below w1.heap.size w1 w') := Lib.hid (fun w1 s o h1 h2 h3 h4 => lossOf_ok W H GA PA gc pc G P b a B A d c s o _ _ w1 (ht.kept h1) ((hg.below h1).more h1.size) ((hp.below h1).more h1.size) ((hT.below h1).more h1.size) ((hS.below h1).more h1.size) (by omega) (by omega) (by omega) (by omega) h3 h4 (hlk o h2).2)
  have hmf := hmfB16
  have hV1 := HW1.out
  have hV2 := HW2.out
  have hV3 := HW3.out
  go_enter Tryz.func73, Tryz.ntmps73
  obtain ⟨p0, p1, p2, p3, p4, p5, p6, p7⟩ := pw.xa.c8
  obtain ⟨q0, q1, q2, q3, q4, q5, q6, q7⟩ := pw.xb.c8
  have e9 := pw.fl.c1
  have f9 := pw.fl.frozen 0
  have s9 := pw.fl.same (i := 0) (v := .int .i64 0) rfl
  go_wp2_with fail
  clear hV1 hV2 hV3 p0 p1 p2 p3 p4 p5 p6 p7 q0 q1 q2 q3 q4 q5 q6 q7 e9 f9 s9
  refine (kL.out W3 1 0 pw.below (.inl rfl) pw.fl pw.t).mono ?_
  rintro e w1 ⟨rfl, hb1⟩
  replace pw := pw.next hb1
  replace rb := rb.below hb1
  obtain ⟨sA, HSA⟩ : ∃ sA, Hid (M.lossO W H G P a b 1 0 = sA) := ⟨_, Lib.hid rfl⟩
  have bdA := M.lossO_bd (a := a) (b := b) (same := 1) (o := 0) HTV.out
  rw [HSA.out] at bdA ⊢
  obtain ⟨p0, p1, p2, p3, p4, p5, p6, p7⟩ := pw.xa.c8
  obtain ⟨q0, q1, q2, q3, q4, q5, q6, q7⟩ := pw.xb.c8
  go_wp2_with fail
  clear p0 p1 p2 p3 p4 p5 p6 p7 q0 q1 q2 q3 q4 q5 q6 q7
  refine (kM.out w1 1 0 pw.below (.inl rfl) pw.fl pw.t).mono ?_
  rintro e w2 ⟨rfl, hb2⟩
  replace pw := pw.next hb2
  replace rb := rb.below hb2
  clear hb1 hb2
  obtain ⟨sB, HSB⟩ : ∃ sB, Hid (M.lossO W H G P b a 1 0 = sB) := ⟨_, Lib.hid rfl⟩
  have bdB := M.lossO_bd (a := b) (b := a) (same := 1) (o := 0) HTV.out
  rw [HSB.out] at bdB ⊢
  have bd1 := M.lossO_bd (a := a) (b := b) (same := sA) (o := -1) HTV.out
  have bd2 := M.lossO_bd (a := b) (b := a) (same := sB) (o := 1) HTV.out
  have bd3 := M.lossO_bd (a := a) (b := b) (same := sA) (o := 1) HTV.out
  have bd4 := M.lossO_bd (a := b) (b := a) (same := sB) (o := -1) HTV.out
  have HF1 : Hid (M.prF W H G P a b pa pb (-1) = M.tooMuch pa pb (M.lossO W H G P a b sA (-1)) (M.lossO W H G P b a sB 1)) := Lib.hid (by unfold M.prF M.sm; rw [HSA.out, HSB.out]; rfl)
  have HF2 : Hid (M.prF W H G P a b pa pb 1 = M.tooMuch pa pb (M.lossO W H G P a b sA 1) (M.lossO W H G P b a sB (-1))) := Lib.hid (by unfold M.prF M.sm; rw [HSA.out, HSB.out])
  have HF0 : Hid (M.tooMuch pa pb (M.sm W H G P a b) (M.sm W H G P b a) = M.tooMuch pa pb sA sB) := Lib.hid (by unfold M.sm; rw [HSA.out, HSB.out])
  have kL1 : Hid (∀ w1, Below w.heap.size w w1 → Box w1 (W2.heap.size + 1) #[.int .i64 0] 33 → Box w1 w.heap.size #[.int .i64 W, .int .i64 H, .slice GA G.length gc, .slice PA P.length pc] 24 → Calls Tryz.prog 109 #[stv a A c, stv b B d, .int .i64 sA, .int .i64 (-1), .pointer (some ⟨W2.heap.size + 1, 0, none⟩), .pointer (some ⟨w.heap.size, 0, none⟩)] w1 fun e w' => e = .returned (.int .i64 (M.lossO W H G P a b sA (-1))) ∧ Below w1.heap.size w1 w') := Lib.hid (fun w1 h1 h2 h3 => kL.out w1 sA (-1) h1 (by omega) h2 h3)
  have kM1 : Hid (∀ w1, Below w.heap.size w w1 → Box w1 (W2.heap.size + 1) #[.int .i64 0] 33 → Box w1 w.heap.size #[.int .i64 W, .int .i64 H, .slice GA G.length gc, .slice PA P.length pc] 24 → Calls Tryz.prog 109 #[stv b B d, stv a A c, .int .i64 sB, .int .i64 1, .pointer (some ⟨W2.heap.size + 1, 0, none⟩), .pointer (some ⟨w.heap.size, 0, none⟩)] w1 fun e w' => e = .returned (.int .i64 (M.lossO W H G P b a sB 1)) ∧ Below w1.heap.size w1 w') := Lib.hid (fun w1 h1 h2 h3 => kM.out w1 sB 1 h1 (by omega) h2 h3)
  have kL2 : Hid (∀ w1, Below w.heap.size w w1 → Box w1 (W2.heap.size + 1) #[.int .i64 0] 33 → Box w1 w.heap.size #[.int .i64 W, .int .i64 H, .slice GA G.length gc, .slice PA P.length pc] 24 → Calls Tryz.prog 109 #[stv a A c, stv b B d, .int .i64 sA, .int .i64 1, .pointer (some ⟨W2.heap.size + 1, 0, none⟩), .pointer (some ⟨w.heap.size, 0, none⟩)] w1 fun e w' => e = .returned (.int .i64 (M.lossO W H G P a b sA 1)) ∧ Below w1.heap.size w1 w') := Lib.hid (fun w1 h1 h2 h3 => kL.out w1 sA 1 h1 (by omega) h2 h3)
  have kM2 : Hid (∀ w1, Below w.heap.size w w1 → Box w1 (W2.heap.size + 1) #[.int .i64 0] 33 → Box w1 w.heap.size #[.int .i64 W, .int .i64 H, .slice GA G.length gc, .slice PA P.length pc] 24 → Calls Tryz.prog 109 #[stv b B d, stv a A c, .int .i64 sB, .int .i64 (-1), .pointer (some ⟨W2.heap.size + 1, 0, none⟩), .pointer (some ⟨w.heap.size, 0, none⟩)] w1 fun e w' => e = .returned (.int .i64 (M.lossO W H G P b a sB (-1))) ∧ Below w1.heap.size w1 w') := Lib.hid (fun w1 h1 h2 h3 => kM.out w1 sB (-1) h1 (by omega) h2 h3)
  generalize M.lossO W H G P a b sA (-1) = z1 at *
  generalize M.lossO W H G P b a sB 1 = z2 at *
  generalize M.lossO W H G P a b sA 1 = z3 at *
  generalize M.lossO W H G P b a sB (-1) = z4 at *
  obtain ⟨p0, p1, p2, p3, p4, p5, p6, p7⟩ := pw.xa.c8
  obtain ⟨q0, q1, q2, q3, q4, q5, q6, q7⟩ := pw.xb.c8
  have la := pw.xa.lt
  have lb := pw.xb.lt
  have bw := pw.below
  have yf := pw.fl
  have yt := pw.t
  have yA := pw.pA
  have yB := pw.pB
  have kl : Hid (∀ u : Kept w2.heap.size w2, Calls Tryz.prog 109 #[stv a A c, stv b B d, .int .i64 sA, .int .i64 (-1), .pointer (some ⟨W2.heap.size + 1, 0, none⟩), .pointer (some ⟨w.heap.size, 0, none⟩)] u.val fun e w' => e = .returned (.int .i64 z1) ∧ Below u.val.heap.size u.val w') := Lib.hid (fun u => kL1.out _ (after_ bw u.h) (yf.below u.h) (yt.below u.h))
  have km : Hid (∀ u : Kept w2.heap.size w2, Calls Tryz.prog 109 #[stv b B d, stv a A c, .int .i64 sB, .int .i64 1, .pointer (some ⟨W2.heap.size + 1, 0, none⟩), .pointer (some ⟨w.heap.size, 0, none⟩)] u.val fun e w' => e = .returned (.int .i64 z2) ∧ Below u.val.heap.size u.val w') := Lib.hid (fun u => kM1.out _ (after_ bw u.h) (yf.below u.h) (yt.below u.h))
  have kf : Hid (∀ u : Kept w2.heap.size w2, Calls Tryz.prog 110 #[.int .i64 z1, .int .i64 z2, .pointer (some ⟨w.heap.size + 1 + 1 + 1, 0, none⟩), .pointer (some ⟨W1.heap.size, 0, none⟩)] u.val fun e w' => e = .returned (.bool (M.tooMuch pa pb z1 z2)) ∧ u.val = w') := Lib.hid (fun u => forbidden_ok pa pb z1 z2 _ _ _ (yA.below u.h) (yB.below u.h) hpa hpb (by omega) (by omega))
  go_wp2_with fail
  refine wp_region_kept w2.heap.size w2 (by kernel_rfl) (by kernel_rfl) (Below.refl _ _) ?_
  repeat (go_big_quiet_step (first | (go_at_call_has 109 (Value.int .i64 (-1)); exact Kept.calls (Nat.le_refl _) (kl.out _)) | (go_at_call_has 109 (Value.int .i64 1); exact Kept.calls (Nat.le_refl _) (km.out _)) | (go_at_call 110; exact Kept.same (kf.out _))))
  refine wpQuiet_nil ?_
  rintro w3 ⟨⟨w3x, hbr⟩, hwr⟩
  dsimp only at hwr
  subst hwr
  replace pw := pw.next hbr
  replace rb := rb.below hbr
  clear p0 p1 p2 p3 p4 p5 p6 p7 q0 q1 q2 q3 q4 q5 q6 q7 la lb bw yf yt yA yB hbr kl km kf
  cases ht1 : M.tooMuch pa pb z1 z2 with
  | true =>
    have c5 := pw.xl.c1
    have c6 := pw.xh.c1
    go_wp2_with fail
    clear c5 c6
    refine (addPair_ok a b A B c d (-1) (lo + 1) (hi) (w.heap.size + 1) (w.heap.size + 1 + 1) W2.heap.size (W2.heap.size + 2) _ _ _ _ w3 rb pw.xa pw.xb pw.nb pw.sz (by simp)).mono ?_
    rintro e w4 ⟨rfl, v4, rb2, hfr⟩
    replace pw := pw.fr hfr
    clear rb hfr
    have rb := rb2
    clear rb2
    have k0 := forbidden_ok pa pb sA sB _ _ w4 pw.pA pw.pB hpa hpb bdA bdB
    go_wp2_with fail
    refine k0.mono ?_
    rintro e y0 ⟨rfl, rfl⟩
    clear k0
    cases ht0 : M.tooMuch pa pb sA sB with
    | true =>
      have c5 := pw.xl.c1
      have c6 := pw.xh.c1
      go_wp2_with fail
      clear c5 c6
      refine (addPair_ok a b A B c d (0) (lo) (hi) (w.heap.size + 1) (w.heap.size + 1 + 1) W2.heap.size (W2.heap.size + 2) _ _ _ _ w4 rb pw.xa pw.xb pw.nb pw.sz (by simp)).mono ?_
      rintro e w5 ⟨rfl, v5, rb2, hfr⟩
      replace pw := pw.fr hfr
      clear rb hfr
      have rb := rb2
      clear rb2
      obtain ⟨p0, p1, p2, p3, p4, p5, p6, p7⟩ := pw.xa.c8
      obtain ⟨q0, q1, q2, q3, q4, q5, q6, q7⟩ := pw.xb.c8
      have la := pw.xa.lt
      have lb := pw.xb.lt
      have bw := pw.below
      have yf := pw.fl
      have yt := pw.t
      have yA := pw.pA
      have yB := pw.pB
      have kl : Hid (∀ u : Kept w5.heap.size w5, Calls Tryz.prog 109 #[stv a A c, stv b B d, .int .i64 sA, .int .i64 1, .pointer (some ⟨W2.heap.size + 1, 0, none⟩), .pointer (some ⟨w.heap.size, 0, none⟩)] u.val fun e w' => e = .returned (.int .i64 z3) ∧ Below u.val.heap.size u.val w') := Lib.hid (fun u => kL2.out _ (after_ bw u.h) (yf.below u.h) (yt.below u.h))
      have km : Hid (∀ u : Kept w5.heap.size w5, Calls Tryz.prog 109 #[stv b B d, stv a A c, .int .i64 sB, .int .i64 (-1), .pointer (some ⟨W2.heap.size + 1, 0, none⟩), .pointer (some ⟨w.heap.size, 0, none⟩)] u.val fun e w' => e = .returned (.int .i64 z4) ∧ Below u.val.heap.size u.val w') := Lib.hid (fun u => kM2.out _ (after_ bw u.h) (yf.below u.h) (yt.below u.h))
      have kf : Hid (∀ u : Kept w5.heap.size w5, Calls Tryz.prog 110 #[.int .i64 z3, .int .i64 z4, .pointer (some ⟨w.heap.size + 1 + 1 + 1, 0, none⟩), .pointer (some ⟨W1.heap.size, 0, none⟩)] u.val fun e w' => e = .returned (.bool (M.tooMuch pa pb z3 z4)) ∧ u.val = w') := Lib.hid (fun u => forbidden_ok pa pb z3 z4 _ _ _ (yA.below u.h) (yB.below u.h) hpa hpb (by omega) (by omega))
      go_wp2_with fail
      refine wp_region_kept w5.heap.size w5 (by kernel_rfl) (by kernel_rfl) (Below.refl _ _) ?_
      repeat (go_big_quiet_step (first | (go_at_call_has 109 (Value.int .i64 1); exact Kept.calls (Nat.le_refl _) (kl.out _)) | (go_at_call_has 109 (Value.int .i64 (-1)); exact Kept.calls (Nat.le_refl _) (km.out _)) | (go_at_call 110; exact Kept.same (kf.out _))))
      refine wpQuiet_nil ?_
      rintro w6 ⟨⟨w6x, hbr⟩, hwr⟩
      dsimp only at hwr
      subst hwr
      replace pw := pw.next hbr
      replace rb := rb.below hbr
      clear p0 p1 p2 p3 p4 p5 p6 p7 q0 q1 q2 q3 q4 q5 q6 q7 la lb bw yf yt yA yB hbr kl km kf
      cases ht2 : M.tooMuch pa pb z3 z4 with
      | true =>
        have c5 := pw.xl.c1
        have c6 := pw.xh.c1
        go_wp2_with fail
        clear c5 c6
        refine (addPair_ok a b A B c d (1) (lo) (hi - 1) (w.heap.size + 1) (w.heap.size + 1 + 1) W2.heap.size (W2.heap.size + 2) _ _ _ _ w6 rb pw.xa pw.xb pw.nb pw.sz (by simp)).mono ?_
        rintro e w7 ⟨rfl, v7, rb2, hfr⟩
        replace pw := pw.fr hfr
        clear rb hfr
        have rb := rb2
        clear rb2
        have HP : Hid (M.prP W H G P a b pa pb lo hi = [] ++ [⟨a.id, b.id, -1, lo + 1, hi⟩] ++ [⟨a.id, b.id, 0, lo, hi⟩] ++ [⟨a.id, b.id, 1, lo, hi - 1⟩]) := Lib.hid (by unfold M.prP M.pr1 M.pr0 M.pr2; rw [HF1.out, HF0.out, HF2.out, ht1, ht0, ht2]; rfl)
        have HL : Hid (M.prL W H G P a b pa pb lo hi = []) := Lib.hid (by unfold M.prL; rw [HF0.out, ht0]; rfl)
        replace rb := rb.cast HP.out.symm HL.out.symm
        obtain ⟨XA, xc, YA, yc, ex, ey, SX, SY, fX, fY⟩ := rb.out
        have e9 := pw.fl.c1
        obtain ⟨g0, g1, g2⟩ := rb.box.c3
        rw [ex] at g0
        rw [ey] at g1
        obtain ⟨h0, h1, h2⟩ := pw.res.c3
        have f0 := pw.res.frozen 0
        have f1 := pw.res.frozen 1
        have f2 := pw.res.frozen 2
        clear ex ey
        have bw := pw.below
        have rs := pw.res
        have dr := pw.dres
        have FX := Lib.hid fX
        have FY := Lib.hid fY
        clear fX fY
        have NB := Lib.hid pw.n0
        go_wp2_with fail
        refine bodyPost_ret (v := .tuple #[ruv XA (M.prP W H G P a b pa pb lo hi).length xc YA (M.prL W H G P a b pa pb lo hi).length yc none 0 0, .int .i64 0]) ?_ rfl ⟨XA, xc, YA, yc, rfl, ?_, ?_, ?_, fun ad h => by have := FX.out ad h; have := NB.out; omega, fun ad h => by have := FY.out ad h; have := NB.out; omega⟩
        · have z := ((rs.set 0 (.slice XA (M.prP W H G P a b pa pb lo hi).length xc)).set 1 (.slice YA (M.prL W H G P a b pa pb lo hi).length yc)).set 2 (.slice none 0 0)
          obtain ⟨z0, z1, z2⟩ := z.c3
          simp [results, Tryz.results73, go_sem, z0, z1, z2]
        · refine Sl.more ?_ (show w7.heap.size ≤ _ by simp)
          iterate 3 refine Sl.setFar ?_ (fun ad h => by have := FX.out ad h; dsimp only; omega) _
          exact SX
        · refine Sl.more ?_ (show w7.heap.size ≤ _ by simp)
          iterate 3 refine Sl.setFar ?_ (fun ad h => by have := FY.out ad h; dsimp only; omega) _
          exact SY
        · iterate 3 refine Below.setCell ?_ (by have := HS1.out; dsimp only; omega) _
          exact bw
      | false =>
        have HP : Hid (M.prP W H G P a b pa pb lo hi = [] ++ [⟨a.id, b.id, -1, lo + 1, hi⟩] ++ [⟨a.id, b.id, 0, lo, hi⟩]) := Lib.hid (by unfold M.prP M.pr1 M.pr0 M.pr2; rw [HF1.out, HF0.out, HF2.out, ht1, ht0, ht2]; rfl)
        have HL : Hid (M.prL W H G P a b pa pb lo hi = []) := Lib.hid (by unfold M.prL; rw [HF0.out, ht0]; rfl)
        replace rb := rb.cast HP.out.symm HL.out.symm
        obtain ⟨XA, xc, YA, yc, ex, ey, SX, SY, fX, fY⟩ := rb.out
        have e9 := pw.fl.c1
        obtain ⟨g0, g1, g2⟩ := rb.box.c3
        rw [ex] at g0
        rw [ey] at g1
        obtain ⟨h0, h1, h2⟩ := pw.res.c3
        have f0 := pw.res.frozen 0
        have f1 := pw.res.frozen 1
        have f2 := pw.res.frozen 2
        clear ex ey
        have bw := pw.below
        have rs := pw.res
        have dr := pw.dres
        have FX := Lib.hid fX
        have FY := Lib.hid fY
        clear fX fY
        have NB := Lib.hid pw.n0
        go_wp2_with fail
        refine bodyPost_ret (v := .tuple #[ruv XA (M.prP W H G P a b pa pb lo hi).length xc YA (M.prL W H G P a b pa pb lo hi).length yc none 0 0, .int .i64 0]) ?_ rfl ⟨XA, xc, YA, yc, rfl, ?_, ?_, ?_, fun ad h => by have := FX.out ad h; have := NB.out; omega, fun ad h => by have := FY.out ad h; have := NB.out; omega⟩
        · have z := ((rs.set 0 (.slice XA (M.prP W H G P a b pa pb lo hi).length xc)).set 1 (.slice YA (M.prL W H G P a b pa pb lo hi).length yc)).set 2 (.slice none 0 0)
          obtain ⟨z0, z1, z2⟩ := z.c3
          simp [results, Tryz.results73, go_sem, z0, z1, z2]
        · refine Sl.more ?_ (show w6.heap.size ≤ _ by simp)
          iterate 3 refine Sl.setFar ?_ (fun ad h => by have := FX.out ad h; dsimp only; omega) _
          exact SX
        · refine Sl.more ?_ (show w6.heap.size ≤ _ by simp)
          iterate 3 refine Sl.setFar ?_ (fun ad h => by have := FY.out ad h; dsimp only; omega) _
          exact SY
        · iterate 3 refine Below.setCell ?_ (by have := HS1.out; dsimp only; omega) _
          exact bw
    | false =>
      have p0 := pw.xa.c8.1
      have q0 := pw.xb.c8.1
      go_wp2_with fail
      clear p0 q0
      refine (addLoad_any a.id b.id sA lo hi _ _ W2.heap.size (W2.heap.size + 2) _ _ _ _ w4 rb pw.xl pw.xh pw.nb pw.sz (by first | (simp; done) | (unfold M.ld; split <;> simp))).mono ?_
      rintro e w8 ⟨rfl, v8, rb2, hfr⟩
      replace pw := pw.fr hfr
      clear rb hfr
      have rb := rb2
      clear rb2
      have p0 := pw.xa.c8.1
      have q0 := pw.xb.c8.1
      go_wp2_with fail
      clear p0 q0
      refine (addLoad_any b.id a.id sB lo hi _ _ W2.heap.size (W2.heap.size + 2) _ _ _ _ w8 rb pw.xl pw.xh pw.nb pw.sz (by first | (simp; done) | (unfold M.ld; split <;> simp))).mono ?_
      rintro e w9 ⟨rfl, v9, rb2, hfr⟩
      replace pw := pw.fr hfr
      clear rb hfr
      have rb := rb2
      clear rb2
      obtain ⟨p0, p1, p2, p3, p4, p5, p6, p7⟩ := pw.xa.c8
      obtain ⟨q0, q1, q2, q3, q4, q5, q6, q7⟩ := pw.xb.c8
      have la := pw.xa.lt
      have lb := pw.xb.lt
      have bw := pw.below
      have yf := pw.fl
      have yt := pw.t
      have yA := pw.pA
      have yB := pw.pB
      have kl : Hid (∀ u : Kept w9.heap.size w9, Calls Tryz.prog 109 #[stv a A c, stv b B d, .int .i64 sA, .int .i64 1, .pointer (some ⟨W2.heap.size + 1, 0, none⟩), .pointer (some ⟨w.heap.size, 0, none⟩)] u.val fun e w' => e = .returned (.int .i64 z3) ∧ Below u.val.heap.size u.val w') := Lib.hid (fun u => kL2.out _ (after_ bw u.h) (yf.below u.h) (yt.below u.h))
      have km : Hid (∀ u : Kept w9.heap.size w9, Calls Tryz.prog 109 #[stv b B d, stv a A c, .int .i64 sB, .int .i64 (-1), .pointer (some ⟨W2.heap.size + 1, 0, none⟩), .pointer (some ⟨w.heap.size, 0, none⟩)] u.val fun e w' => e = .returned (.int .i64 z4) ∧ Below u.val.heap.size u.val w') := Lib.hid (fun u => kM2.out _ (after_ bw u.h) (yf.below u.h) (yt.below u.h))
      have kf : Hid (∀ u : Kept w9.heap.size w9, Calls Tryz.prog 110 #[.int .i64 z3, .int .i64 z4, .pointer (some ⟨w.heap.size + 1 + 1 + 1, 0, none⟩), .pointer (some ⟨W1.heap.size, 0, none⟩)] u.val fun e w' => e = .returned (.bool (M.tooMuch pa pb z3 z4)) ∧ u.val = w') := Lib.hid (fun u => forbidden_ok pa pb z3 z4 _ _ _ (yA.below u.h) (yB.below u.h) hpa hpb (by omega) (by omega))
      go_wp2_with fail
      refine wp_region_kept w9.heap.size w9 (by kernel_rfl) (by kernel_rfl) (Below.refl _ _) ?_
      repeat (go_big_quiet_step (first | (go_at_call_has 109 (Value.int .i64 1); exact Kept.calls (Nat.le_refl _) (kl.out _)) | (go_at_call_has 109 (Value.int .i64 (-1)); exact Kept.calls (Nat.le_refl _) (km.out _)) | (go_at_call 110; exact Kept.same (kf.out _))))
      refine wpQuiet_nil ?_
      rintro w10 ⟨⟨w10x, hbr⟩, hwr⟩
      dsimp only at hwr
      subst hwr
      replace pw := pw.next hbr
      replace rb := rb.below hbr
      clear p0 p1 p2 p3 p4 p5 p6 p7 q0 q1 q2 q3 q4 q5 q6 q7 la lb bw yf yt yA yB hbr kl km kf
      cases ht2 : M.tooMuch pa pb z3 z4 with
      | true =>
        have c5 := pw.xl.c1
        have c6 := pw.xh.c1
        go_wp2_with fail
        clear c5 c6
        refine (addPair_ok a b A B c d (1) (lo) (hi - 1) (w.heap.size + 1) (w.heap.size + 1 + 1) W2.heap.size (W2.heap.size + 2) _ _ _ _ w10 rb pw.xa pw.xb pw.nb pw.sz (by simp)).mono ?_
        rintro e w11 ⟨rfl, v11, rb2, hfr⟩
        replace pw := pw.fr hfr
        clear rb hfr
        have rb := rb2
        clear rb2
        have HP : Hid (M.prP W H G P a b pa pb lo hi = [] ++ [⟨a.id, b.id, -1, lo + 1, hi⟩] ++ [⟨a.id, b.id, 1, lo, hi - 1⟩]) := Lib.hid (by unfold M.prP M.pr1 M.pr0 M.pr2; rw [HF1.out, HF0.out, HF2.out, ht1, ht0, ht2]; rfl)
        have HL : Hid (M.prL W H G P a b pa pb lo hi = [] ++ M.ld a.id b.id sA lo hi ++ M.ld b.id a.id sB lo hi) := Lib.hid (by unfold M.prL; rw [HF0.out, ht0]; unfold M.sm; rw [HSA.out, HSB.out]; rfl)
        replace rb := rb.cast HP.out.symm HL.out.symm
        obtain ⟨XA, xc, YA, yc, ex, ey, SX, SY, fX, fY⟩ := rb.out
        have e9 := pw.fl.c1
        obtain ⟨g0, g1, g2⟩ := rb.box.c3
        rw [ex] at g0
        rw [ey] at g1
        obtain ⟨h0, h1, h2⟩ := pw.res.c3
        have f0 := pw.res.frozen 0
        have f1 := pw.res.frozen 1
        have f2 := pw.res.frozen 2
        clear ex ey
        have bw := pw.below
        have rs := pw.res
        have dr := pw.dres
        have FX := Lib.hid fX
        have FY := Lib.hid fY
        clear fX fY
        have NB := Lib.hid pw.n0
        go_wp2_with fail
        refine bodyPost_ret (v := .tuple #[ruv XA (M.prP W H G P a b pa pb lo hi).length xc YA (M.prL W H G P a b pa pb lo hi).length yc none 0 0, .int .i64 0]) ?_ rfl ⟨XA, xc, YA, yc, rfl, ?_, ?_, ?_, fun ad h => by have := FX.out ad h; have := NB.out; omega, fun ad h => by have := FY.out ad h; have := NB.out; omega⟩
        · have z := ((rs.set 0 (.slice XA (M.prP W H G P a b pa pb lo hi).length xc)).set 1 (.slice YA (M.prL W H G P a b pa pb lo hi).length yc)).set 2 (.slice none 0 0)
          obtain ⟨z0, z1, z2⟩ := z.c3
          simp [results, Tryz.results73, go_sem, z0, z1, z2]
        · refine Sl.more ?_ (show w11.heap.size ≤ _ by simp)
          iterate 3 refine Sl.setFar ?_ (fun ad h => by have := FX.out ad h; dsimp only; omega) _
          exact SX
        · refine Sl.more ?_ (show w11.heap.size ≤ _ by simp)
          iterate 3 refine Sl.setFar ?_ (fun ad h => by have := FY.out ad h; dsimp only; omega) _
          exact SY
        · iterate 3 refine Below.setCell ?_ (by have := HS1.out; dsimp only; omega) _
          exact bw
      | false =>
        have HP : Hid (M.prP W H G P a b pa pb lo hi = [] ++ [⟨a.id, b.id, -1, lo + 1, hi⟩]) := Lib.hid (by unfold M.prP M.pr1 M.pr0 M.pr2; rw [HF1.out, HF0.out, HF2.out, ht1, ht0, ht2]; rfl)
        have HL : Hid (M.prL W H G P a b pa pb lo hi = [] ++ M.ld a.id b.id sA lo hi ++ M.ld b.id a.id sB lo hi) := Lib.hid (by unfold M.prL; rw [HF0.out, ht0]; unfold M.sm; rw [HSA.out, HSB.out]; rfl)
        replace rb := rb.cast HP.out.symm HL.out.symm
        obtain ⟨XA, xc, YA, yc, ex, ey, SX, SY, fX, fY⟩ := rb.out
        have e9 := pw.fl.c1
        obtain ⟨g0, g1, g2⟩ := rb.box.c3
        rw [ex] at g0
        rw [ey] at g1
        obtain ⟨h0, h1, h2⟩ := pw.res.c3
        have f0 := pw.res.frozen 0
        have f1 := pw.res.frozen 1
        have f2 := pw.res.frozen 2
        clear ex ey
        have bw := pw.below
        have rs := pw.res
        have dr := pw.dres
        have FX := Lib.hid fX
        have FY := Lib.hid fY
        clear fX fY
        have NB := Lib.hid pw.n0
        go_wp2_with fail
        refine bodyPost_ret (v := .tuple #[ruv XA (M.prP W H G P a b pa pb lo hi).length xc YA (M.prL W H G P a b pa pb lo hi).length yc none 0 0, .int .i64 0]) ?_ rfl ⟨XA, xc, YA, yc, rfl, ?_, ?_, ?_, fun ad h => by have := FX.out ad h; have := NB.out; omega, fun ad h => by have := FY.out ad h; have := NB.out; omega⟩
        · have z := ((rs.set 0 (.slice XA (M.prP W H G P a b pa pb lo hi).length xc)).set 1 (.slice YA (M.prL W H G P a b pa pb lo hi).length yc)).set 2 (.slice none 0 0)
          obtain ⟨z0, z1, z2⟩ := z.c3
          simp [results, Tryz.results73, go_sem, z0, z1, z2]
        · refine Sl.more ?_ (show w10.heap.size ≤ _ by simp)
          iterate 3 refine Sl.setFar ?_ (fun ad h => by have := FX.out ad h; dsimp only; omega) _
          exact SX
        · refine Sl.more ?_ (show w10.heap.size ≤ _ by simp)
          iterate 3 refine Sl.setFar ?_ (fun ad h => by have := FY.out ad h; dsimp only; omega) _
          exact SY
        · iterate 3 refine Below.setCell ?_ (by have := HS1.out; dsimp only; omega) _
          exact bw
  | false =>
    have k0 := forbidden_ok pa pb sA sB _ _ w3 pw.pA pw.pB hpa hpb bdA bdB
    go_wp2_with fail
    refine k0.mono ?_
    rintro e y0 ⟨rfl, rfl⟩
    clear k0
    cases ht0 : M.tooMuch pa pb sA sB with
    | true =>
      have c5 := pw.xl.c1
      have c6 := pw.xh.c1
      go_wp2_with fail
      clear c5 c6
      refine (addPair_ok a b A B c d (0) (lo) (hi) (w.heap.size + 1) (w.heap.size + 1 + 1) W2.heap.size (W2.heap.size + 2) _ _ _ _ w3 rb pw.xa pw.xb pw.nb pw.sz (by simp)).mono ?_
      rintro e w12 ⟨rfl, v12, rb2, hfr⟩
      replace pw := pw.fr hfr
      clear rb hfr
      have rb := rb2
      clear rb2
      obtain ⟨p0, p1, p2, p3, p4, p5, p6, p7⟩ := pw.xa.c8
      obtain ⟨q0, q1, q2, q3, q4, q5, q6, q7⟩ := pw.xb.c8
      have la := pw.xa.lt
      have lb := pw.xb.lt
      have bw := pw.below
      have yf := pw.fl
      have yt := pw.t
      have yA := pw.pA
      have yB := pw.pB
      have kl : Hid (∀ u : Kept w12.heap.size w12, Calls Tryz.prog 109 #[stv a A c, stv b B d, .int .i64 sA, .int .i64 1, .pointer (some ⟨W2.heap.size + 1, 0, none⟩), .pointer (some ⟨w.heap.size, 0, none⟩)] u.val fun e w' => e = .returned (.int .i64 z3) ∧ Below u.val.heap.size u.val w') := Lib.hid (fun u => kL2.out _ (after_ bw u.h) (yf.below u.h) (yt.below u.h))
      have km : Hid (∀ u : Kept w12.heap.size w12, Calls Tryz.prog 109 #[stv b B d, stv a A c, .int .i64 sB, .int .i64 (-1), .pointer (some ⟨W2.heap.size + 1, 0, none⟩), .pointer (some ⟨w.heap.size, 0, none⟩)] u.val fun e w' => e = .returned (.int .i64 z4) ∧ Below u.val.heap.size u.val w') := Lib.hid (fun u => kM2.out _ (after_ bw u.h) (yf.below u.h) (yt.below u.h))
      have kf : Hid (∀ u : Kept w12.heap.size w12, Calls Tryz.prog 110 #[.int .i64 z3, .int .i64 z4, .pointer (some ⟨w.heap.size + 1 + 1 + 1, 0, none⟩), .pointer (some ⟨W1.heap.size, 0, none⟩)] u.val fun e w' => e = .returned (.bool (M.tooMuch pa pb z3 z4)) ∧ u.val = w') := Lib.hid (fun u => forbidden_ok pa pb z3 z4 _ _ _ (yA.below u.h) (yB.below u.h) hpa hpb (by omega) (by omega))
      go_wp2_with fail
      refine wp_region_kept w12.heap.size w12 (by kernel_rfl) (by kernel_rfl) (Below.refl _ _) ?_
      repeat (go_big_quiet_step (first | (go_at_call_has 109 (Value.int .i64 1); exact Kept.calls (Nat.le_refl _) (kl.out _)) | (go_at_call_has 109 (Value.int .i64 (-1)); exact Kept.calls (Nat.le_refl _) (km.out _)) | (go_at_call 110; exact Kept.same (kf.out _))))
      refine wpQuiet_nil ?_
      rintro w13 ⟨⟨w13x, hbr⟩, hwr⟩
      dsimp only at hwr
      subst hwr
      replace pw := pw.next hbr
      replace rb := rb.below hbr
      clear p0 p1 p2 p3 p4 p5 p6 p7 q0 q1 q2 q3 q4 q5 q6 q7 la lb bw yf yt yA yB hbr kl km kf
      cases ht2 : M.tooMuch pa pb z3 z4 with
      | true =>
        have c5 := pw.xl.c1
        have c6 := pw.xh.c1
        go_wp2_with fail
        clear c5 c6
        refine (addPair_ok a b A B c d (1) (lo) (hi - 1) (w.heap.size + 1) (w.heap.size + 1 + 1) W2.heap.size (W2.heap.size + 2) _ _ _ _ w13 rb pw.xa pw.xb pw.nb pw.sz (by simp)).mono ?_
        rintro e w14 ⟨rfl, v14, rb2, hfr⟩
        replace pw := pw.fr hfr
        clear rb hfr
        have rb := rb2
        clear rb2
        have HP : Hid (M.prP W H G P a b pa pb lo hi = [] ++ [⟨a.id, b.id, 0, lo, hi⟩] ++ [⟨a.id, b.id, 1, lo, hi - 1⟩]) := Lib.hid (by unfold M.prP M.pr1 M.pr0 M.pr2; rw [HF1.out, HF0.out, HF2.out, ht1, ht0, ht2]; rfl)
        have HL : Hid (M.prL W H G P a b pa pb lo hi = []) := Lib.hid (by unfold M.prL; rw [HF0.out, ht0]; rfl)
        replace rb := rb.cast HP.out.symm HL.out.symm
        obtain ⟨XA, xc, YA, yc, ex, ey, SX, SY, fX, fY⟩ := rb.out
        have e9 := pw.fl.c1
        obtain ⟨g0, g1, g2⟩ := rb.box.c3
        rw [ex] at g0
        rw [ey] at g1
        obtain ⟨h0, h1, h2⟩ := pw.res.c3
        have f0 := pw.res.frozen 0
        have f1 := pw.res.frozen 1
        have f2 := pw.res.frozen 2
        clear ex ey
        have bw := pw.below
        have rs := pw.res
        have dr := pw.dres
        have FX := Lib.hid fX
        have FY := Lib.hid fY
        clear fX fY
        have NB := Lib.hid pw.n0
        go_wp2_with fail
        refine bodyPost_ret (v := .tuple #[ruv XA (M.prP W H G P a b pa pb lo hi).length xc YA (M.prL W H G P a b pa pb lo hi).length yc none 0 0, .int .i64 0]) ?_ rfl ⟨XA, xc, YA, yc, rfl, ?_, ?_, ?_, fun ad h => by have := FX.out ad h; have := NB.out; omega, fun ad h => by have := FY.out ad h; have := NB.out; omega⟩
        · have z := ((rs.set 0 (.slice XA (M.prP W H G P a b pa pb lo hi).length xc)).set 1 (.slice YA (M.prL W H G P a b pa pb lo hi).length yc)).set 2 (.slice none 0 0)
          obtain ⟨z0, z1, z2⟩ := z.c3
          simp [results, Tryz.results73, go_sem, z0, z1, z2]
        · refine Sl.more ?_ (show w14.heap.size ≤ _ by simp)
          iterate 3 refine Sl.setFar ?_ (fun ad h => by have := FX.out ad h; dsimp only; omega) _
          exact SX
        · refine Sl.more ?_ (show w14.heap.size ≤ _ by simp)
          iterate 3 refine Sl.setFar ?_ (fun ad h => by have := FY.out ad h; dsimp only; omega) _
          exact SY
        · iterate 3 refine Below.setCell ?_ (by have := HS1.out; dsimp only; omega) _
          exact bw
      | false =>
        have HP : Hid (M.prP W H G P a b pa pb lo hi = [] ++ [⟨a.id, b.id, 0, lo, hi⟩]) := Lib.hid (by unfold M.prP M.pr1 M.pr0 M.pr2; rw [HF1.out, HF0.out, HF2.out, ht1, ht0, ht2]; rfl)
        have HL : Hid (M.prL W H G P a b pa pb lo hi = []) := Lib.hid (by unfold M.prL; rw [HF0.out, ht0]; rfl)
        replace rb := rb.cast HP.out.symm HL.out.symm
        obtain ⟨XA, xc, YA, yc, ex, ey, SX, SY, fX, fY⟩ := rb.out
        have e9 := pw.fl.c1
        obtain ⟨g0, g1, g2⟩ := rb.box.c3
        rw [ex] at g0
        rw [ey] at g1
        obtain ⟨h0, h1, h2⟩ := pw.res.c3
        have f0 := pw.res.frozen 0
        have f1 := pw.res.frozen 1
        have f2 := pw.res.frozen 2
        clear ex ey
        have bw := pw.below
        have rs := pw.res
        have dr := pw.dres
        have FX := Lib.hid fX
        have FY := Lib.hid fY
        clear fX fY
        have NB := Lib.hid pw.n0
        go_wp2_with fail
        refine bodyPost_ret (v := .tuple #[ruv XA (M.prP W H G P a b pa pb lo hi).length xc YA (M.prL W H G P a b pa pb lo hi).length yc none 0 0, .int .i64 0]) ?_ rfl ⟨XA, xc, YA, yc, rfl, ?_, ?_, ?_, fun ad h => by have := FX.out ad h; have := NB.out; omega, fun ad h => by have := FY.out ad h; have := NB.out; omega⟩
        · have z := ((rs.set 0 (.slice XA (M.prP W H G P a b pa pb lo hi).length xc)).set 1 (.slice YA (M.prL W H G P a b pa pb lo hi).length yc)).set 2 (.slice none 0 0)
          obtain ⟨z0, z1, z2⟩ := z.c3
          simp [results, Tryz.results73, go_sem, z0, z1, z2]
        · refine Sl.more ?_ (show w13.heap.size ≤ _ by simp)
          iterate 3 refine Sl.setFar ?_ (fun ad h => by have := FX.out ad h; dsimp only; omega) _
          exact SX
        · refine Sl.more ?_ (show w13.heap.size ≤ _ by simp)
          iterate 3 refine Sl.setFar ?_ (fun ad h => by have := FY.out ad h; dsimp only; omega) _
          exact SY
        · iterate 3 refine Below.setCell ?_ (by have := HS1.out; dsimp only; omega) _
          exact bw
    | false =>
      have p0 := pw.xa.c8.1
      have q0 := pw.xb.c8.1
      go_wp2_with fail
      clear p0 q0
      refine (addLoad_any a.id b.id sA lo hi _ _ W2.heap.size (W2.heap.size + 2) _ _ _ _ w3 rb pw.xl pw.xh pw.nb pw.sz (by first | (simp; done) | (unfold M.ld; split <;> simp))).mono ?_
      rintro e w15 ⟨rfl, v15, rb2, hfr⟩
      replace pw := pw.fr hfr
      clear rb hfr
      have rb := rb2
      clear rb2
      have p0 := pw.xa.c8.1
      have q0 := pw.xb.c8.1
      go_wp2_with fail
      clear p0 q0
      refine (addLoad_any b.id a.id sB lo hi _ _ W2.heap.size (W2.heap.size + 2) _ _ _ _ w15 rb pw.xl pw.xh pw.nb pw.sz (by first | (simp; done) | (unfold M.ld; split <;> simp))).mono ?_
      rintro e w16 ⟨rfl, v16, rb2, hfr⟩
      replace pw := pw.fr hfr
      clear rb hfr
      have rb := rb2
      clear rb2
      obtain ⟨p0, p1, p2, p3, p4, p5, p6, p7⟩ := pw.xa.c8
      obtain ⟨q0, q1, q2, q3, q4, q5, q6, q7⟩ := pw.xb.c8
      have la := pw.xa.lt
      have lb := pw.xb.lt
      have bw := pw.below
      have yf := pw.fl
      have yt := pw.t
      have yA := pw.pA
      have yB := pw.pB
      have kl : Hid (∀ u : Kept w16.heap.size w16, Calls Tryz.prog 109 #[stv a A c, stv b B d, .int .i64 sA, .int .i64 1, .pointer (some ⟨W2.heap.size + 1, 0, none⟩), .pointer (some ⟨w.heap.size, 0, none⟩)] u.val fun e w' => e = .returned (.int .i64 z3) ∧ Below u.val.heap.size u.val w') := Lib.hid (fun u => kL2.out _ (after_ bw u.h) (yf.below u.h) (yt.below u.h))
      have km : Hid (∀ u : Kept w16.heap.size w16, Calls Tryz.prog 109 #[stv b B d, stv a A c, .int .i64 sB, .int .i64 (-1), .pointer (some ⟨W2.heap.size + 1, 0, none⟩), .pointer (some ⟨w.heap.size, 0, none⟩)] u.val fun e w' => e = .returned (.int .i64 z4) ∧ Below u.val.heap.size u.val w') := Lib.hid (fun u => kM2.out _ (after_ bw u.h) (yf.below u.h) (yt.below u.h))
      have kf : Hid (∀ u : Kept w16.heap.size w16, Calls Tryz.prog 110 #[.int .i64 z3, .int .i64 z4, .pointer (some ⟨w.heap.size + 1 + 1 + 1, 0, none⟩), .pointer (some ⟨W1.heap.size, 0, none⟩)] u.val fun e w' => e = .returned (.bool (M.tooMuch pa pb z3 z4)) ∧ u.val = w') := Lib.hid (fun u => forbidden_ok pa pb z3 z4 _ _ _ (yA.below u.h) (yB.below u.h) hpa hpb (by omega) (by omega))
      go_wp2_with fail
      refine wp_region_kept w16.heap.size w16 (by kernel_rfl) (by kernel_rfl) (Below.refl _ _) ?_
      repeat (go_big_quiet_step (first | (go_at_call_has 109 (Value.int .i64 1); exact Kept.calls (Nat.le_refl _) (kl.out _)) | (go_at_call_has 109 (Value.int .i64 (-1)); exact Kept.calls (Nat.le_refl _) (km.out _)) | (go_at_call 110; exact Kept.same (kf.out _))))
      refine wpQuiet_nil ?_
      rintro w17 ⟨⟨w17x, hbr⟩, hwr⟩
      dsimp only at hwr
      subst hwr
      replace pw := pw.next hbr
      replace rb := rb.below hbr
      clear p0 p1 p2 p3 p4 p5 p6 p7 q0 q1 q2 q3 q4 q5 q6 q7 la lb bw yf yt yA yB hbr kl km kf
      cases ht2 : M.tooMuch pa pb z3 z4 with
      | true =>
        have c5 := pw.xl.c1
        have c6 := pw.xh.c1
        go_wp2_with fail
        clear c5 c6
        refine (addPair_ok a b A B c d (1) (lo) (hi - 1) (w.heap.size + 1) (w.heap.size + 1 + 1) W2.heap.size (W2.heap.size + 2) _ _ _ _ w17 rb pw.xa pw.xb pw.nb pw.sz (by simp)).mono ?_
        rintro e w18 ⟨rfl, v18, rb2, hfr⟩
        replace pw := pw.fr hfr
        clear rb hfr
        have rb := rb2
        clear rb2
        have HP : Hid (M.prP W H G P a b pa pb lo hi = [] ++ [⟨a.id, b.id, 1, lo, hi - 1⟩]) := Lib.hid (by unfold M.prP M.pr1 M.pr0 M.pr2; rw [HF1.out, HF0.out, HF2.out, ht1, ht0, ht2]; rfl)
        have HL : Hid (M.prL W H G P a b pa pb lo hi = [] ++ M.ld a.id b.id sA lo hi ++ M.ld b.id a.id sB lo hi) := Lib.hid (by unfold M.prL; rw [HF0.out, ht0]; unfold M.sm; rw [HSA.out, HSB.out]; rfl)
        replace rb := rb.cast HP.out.symm HL.out.symm
        obtain ⟨XA, xc, YA, yc, ex, ey, SX, SY, fX, fY⟩ := rb.out
        have e9 := pw.fl.c1
        obtain ⟨g0, g1, g2⟩ := rb.box.c3
        rw [ex] at g0
        rw [ey] at g1
        obtain ⟨h0, h1, h2⟩ := pw.res.c3
        have f0 := pw.res.frozen 0
        have f1 := pw.res.frozen 1
        have f2 := pw.res.frozen 2
        clear ex ey
        have bw := pw.below
        have rs := pw.res
        have dr := pw.dres
        have FX := Lib.hid fX
        have FY := Lib.hid fY
        clear fX fY
        have NB := Lib.hid pw.n0
        go_wp2_with fail
        refine bodyPost_ret (v := .tuple #[ruv XA (M.prP W H G P a b pa pb lo hi).length xc YA (M.prL W H G P a b pa pb lo hi).length yc none 0 0, .int .i64 0]) ?_ rfl ⟨XA, xc, YA, yc, rfl, ?_, ?_, ?_, fun ad h => by have := FX.out ad h; have := NB.out; omega, fun ad h => by have := FY.out ad h; have := NB.out; omega⟩
        · have z := ((rs.set 0 (.slice XA (M.prP W H G P a b pa pb lo hi).length xc)).set 1 (.slice YA (M.prL W H G P a b pa pb lo hi).length yc)).set 2 (.slice none 0 0)
          obtain ⟨z0, z1, z2⟩ := z.c3
          simp [results, Tryz.results73, go_sem, z0, z1, z2]
        · refine Sl.more ?_ (show w18.heap.size ≤ _ by simp)
          iterate 3 refine Sl.setFar ?_ (fun ad h => by have := FX.out ad h; dsimp only; omega) _
          exact SX
        · refine Sl.more ?_ (show w18.heap.size ≤ _ by simp)
          iterate 3 refine Sl.setFar ?_ (fun ad h => by have := FY.out ad h; dsimp only; omega) _
          exact SY
        · iterate 3 refine Below.setCell ?_ (by have := HS1.out; dsimp only; omega) _
          exact bw
      | false =>
        have HP : Hid (M.prP W H G P a b pa pb lo hi = []) := Lib.hid (by unfold M.prP M.pr1 M.pr0 M.pr2; rw [HF1.out, HF0.out, HF2.out, ht1, ht0, ht2]; rfl)
        have HL : Hid (M.prL W H G P a b pa pb lo hi = [] ++ M.ld a.id b.id sA lo hi ++ M.ld b.id a.id sB lo hi) := Lib.hid (by unfold M.prL; rw [HF0.out, ht0]; unfold M.sm; rw [HSA.out, HSB.out]; rfl)
        replace rb := rb.cast HP.out.symm HL.out.symm
        obtain ⟨XA, xc, YA, yc, ex, ey, SX, SY, fX, fY⟩ := rb.out
        have e9 := pw.fl.c1
        obtain ⟨g0, g1, g2⟩ := rb.box.c3
        rw [ex] at g0
        rw [ey] at g1
        obtain ⟨h0, h1, h2⟩ := pw.res.c3
        have f0 := pw.res.frozen 0
        have f1 := pw.res.frozen 1
        have f2 := pw.res.frozen 2
        clear ex ey
        have bw := pw.below
        have rs := pw.res
        have dr := pw.dres
        have FX := Lib.hid fX
        have FY := Lib.hid fY
        clear fX fY
        have NB := Lib.hid pw.n0
        go_wp2_with fail
        refine bodyPost_ret (v := .tuple #[ruv XA (M.prP W H G P a b pa pb lo hi).length xc YA (M.prL W H G P a b pa pb lo hi).length yc none 0 0, .int .i64 0]) ?_ rfl ⟨XA, xc, YA, yc, rfl, ?_, ?_, ?_, fun ad h => by have := FX.out ad h; have := NB.out; omega, fun ad h => by have := FY.out ad h; have := NB.out; omega⟩
        · have z := ((rs.set 0 (.slice XA (M.prP W H G P a b pa pb lo hi).length xc)).set 1 (.slice YA (M.prL W H G P a b pa pb lo hi).length yc)).set 2 (.slice none 0 0)
          obtain ⟨z0, z1, z2⟩ := z.c3
          simp [results, Tryz.results73, go_sem, z0, z1, z2]
        · refine Sl.more ?_ (show w17.heap.size ≤ _ by simp)
          iterate 3 refine Sl.setFar ?_ (fun ad h => by have := FX.out ad h; dsimp only; omega) _
          exact SX
        · refine Sl.more ?_ (show w17.heap.size ≤ _ by simp)
          iterate 3 refine Sl.setFar ?_ (fun ad h => by have := FY.out ad h; dsimp only; omega) _
          exact SY
        · iterate 3 refine Below.setCell ?_ (by have := HS1.out; dsimp only; omega) _
          exact bw
end Go.Proofs.YtciolgmljpamlaaGreatDoor
end

section
namespace Go.Proofs.YtciolgmljpamlaaGreatDoor
open Go Go.RowKit
set_option maxRecDepth 100000
def itv (bs : Nat) : Value := .func (.func 76) #[] #[.pointer (some ⟨bs, 0, none⟩)]
set_option maxHeartbeats 4000000 in
theorem isTo_ok {w : World} {bs : Nat} {cs : Array Value} {id : Int} (h : Box w bs cs 40) (hid : cs[0]? = some (.int .i64 id)) (p : P5) :
    Calls Tryz.prog 76 #[p5v p, .pointer (some ⟨bs, 0, none⟩)] w fun e w' => e = .returned (.bool (decide (p.a = id))) ∧ Below w.heap.size w w' := by
  obtain ⟨V, HW, x0, hB, -⟩ := boxes1 w (p5c p) 68
  have d0 := (h.below hB).cell 0 hid
  have c0 : V.cell? ⟨w.heap.size, 0, none⟩ = some (.int .i64 p.a) := x0.cell 0 rfl
  have hV := HW.out
  go_enter Tryz.func76, Tryz.ntmps76
  go_wp2_with fail
  go_ret
  exact ⟨rfl, hB⟩
theorem M.any_here {l : List P5} {id : Int} {k : Nat} (hk : k < l.length) (h : (l[k]).a = id) : M.loaded l id = true := by
  unfold M.loaded; rw [List.any_eq_true]; exact ⟨l[k], List.getElem_mem hk, by simpa using h⟩
theorem M.any_none {l : List P5} {id : Int} (h : ∀ j (hj : j < l.length), ¬ (l[j]).a = id) : M.loaded l id = false := by
  unfold M.loaded; rw [List.any_eq_false]; intro x hx
  obtain ⟨j, hj, rfl⟩ := List.getElem_of_mem hx
  simpa using h j hj
set_option maxHeartbeats 8000000 in
theorem idxLoads_ok (A : Option Addr) (c : Nat) (l : List P5) (bs : Nat) (cs : Array Value) (id : Int) (w : World) (hA : Sl 5 p5cell w w.heap.size A l) (h : Box w bs cs 40) (hid : cs[0]? = some (.int .i64 id)) (hl : l.length ≤ 100000) :
    Calls Tryz.prog 116 #[.slice A l.length c, itv bs] w fun e w' => (∃ n : Int, e = .returned (.int .i64 n) ∧ decide (0 ≤ n) = M.loaded l id) ∧ Below w.heap.size w w' := by
  have HYES : Hid (∀ k (hk : k < l.length), (l[k]).a = id → M.loaded l id = true) := Lib.hid (fun k hk h => M.any_here hk h)
  have HNO : Hid ((∀ j (hj : j < l.length), ¬ (l[j]).a = id) → M.loaded l id = false) := Lib.hid M.any_none
  obtain ⟨r, hr⟩ : ∃ r, M.loaded l id = r := ⟨_, rfl⟩
  rw [hr] at HYES HNO ⊢
  clear hr
  unfold itv
  go_enter Tryz.func116, Tryz.ntmps116
  go_wp2_with fail
  go_loopw [5, 8] (fun _ i wr => ∃ k : Nat, k ≤ l.length ∧ i = .int .i64 k ∧ Below w.heap.size w wr ∧ Hid (∀ j (hj : j < l.length), j < k → ¬ (l[j]).a = id)) (fun _ i _ => l.length - (intOf i).toNat)
  case atStart => exact ⟨0, Nat.zero_le _, rfl, Below.refl _ _, Lib.hid (fun j _ h => absurd h (by omega))⟩
  case round =>
    obtain ⟨k, hk, rfl, hBw, HN⟩ := hrel
    by_cases hlt : k < l.length
    · obtain ⟨la, rfl, hlb, a0, hj⟩ := (hA.below hBw).sp (k := k) (by decide) hlt
      have a1 := hj 1 (by decide) (by decide)
      have a2 := hj 2 (by decide) (by decide)
      have a3 := hj 3 (by decide) (by decide)
      have a4 := hj 4 (by decide) (by decide)
      clear hj
      simp only [p5cell] at a0 a1 a2 a3 a4
      have kI := fun w1 (hb1 : Below w.heap.size w w1) => isTo_ok (h.below hb1) hid l[k]
      by_cases hc : (l[k]).a = id
      · have HF := Lib.hid (HYES.out k hlt hc)
        have kI2 := kI _ hBw
        rw [decide_eq_true hc] at kI2
        clear hc kI
        go_wp2_with fail
        refine kI2.mono ?_
        rintro e w2 ⟨rfl, hb2⟩
        go_wp2_with fail
        go_ret
        exact ⟨⟨_, rfl, by rw [HF.out]; exact decide_eq_true (by omega)⟩, after_ hBw hb2⟩
      · have kI2 := kI _ hBw
        rw [decide_eq_false hc] at kI2
        have HN2 : Hid (∀ j (hj : j < l.length), j < k + 1 → ¬ (l[j]).a = id) := Lib.hid (fun j hj h3 => by
          by_cases e : j = k
          · subst e; exact hc
          · exact HN.out j hj (by omega))
        clear hc kI
        go_wp2_with fail
        refine kI2.mono ?_
        rintro e w2 ⟨rfl, hb2⟩
        go_wp2_with fail
        go_roundw
        case rel => exact ⟨k + 1, hlt, by go_num, after_ hBw hb2, HN2⟩
        case measure => simp [intOf]; omega
    · have HF := Lib.hid (HNO.out (fun j hj => HN.out j hj (by omega)))
      go_wp2_with fail
      go_ret
      exact ⟨⟨_, rfl, by rw [HF.out]; rfl⟩, hBw⟩
set_option maxHeartbeats 4000000 in
theorem contLoads_ok (A : Option Addr) (c : Nat) (l : List P5) (bs : Nat) (cs : Array Value) (id : Int) (w : World) (hA : Sl 5 p5cell w w.heap.size A l) (h : Box w bs cs 40) (hid : cs[0]? = some (.int .i64 id)) (hl : l.length ≤ 100000) :
    Calls Tryz.prog 77 #[.slice A l.length c, itv bs] w fun e w' => e = .returned (.bool (M.loaded l id)) ∧ Below w.heap.size w w' := by
  have k := idxLoads_ok A c l bs cs id w hA h hid hl
  go_enter Tryz.func77, Tryz.ntmps77
  go_wp2_with fail
  refine k.mono ?_
  rintro e w1 ⟨⟨n, rfl, hn⟩, hb1⟩
  go_wp2_with fail
  go_ret
  first | exact ⟨rfl, hb1⟩ | exact ⟨ret_bool hn, hb1⟩
end Go.Proofs.YtciolgmljpamlaaGreatDoor
end

section
namespace Go.Proofs.YtciolgmljpamlaaGreatDoor
open Go Go.RowKit
set_option maxRecDepth 100000
set_option maxHeartbeats 4000000 in
theorem pair16_any (p : P5) (w : World) : Calls Tryz.prog 60 #[p5v p] w (RetS 1 icell w p.l) := by
  obtain ⟨V, HW, x0, hB, -⟩ := boxes1 w (p5c p) 66
  obtain ⟨U, HU, y0, hU, -⟩ := boxes1 V #[.int .i64 p.a, .int .i64 p.b, .int .i64 p.c, .int .i64 p.d, .int .i64 p.e] 3
  obtain ⟨c0, c1, c2, c3, c4⟩ : V.cell? ⟨w.heap.size, 0, none⟩ = some (.int .i64 p.a) ∧ V.cell? ⟨w.heap.size, 1, none⟩ = some (.int .i64 p.b) ∧ V.cell? ⟨w.heap.size, 2, none⟩ = some (.int .i64 p.c) ∧ V.cell? ⟨w.heap.size, 3, none⟩ = some (.int .i64 p.d) ∧ V.cell? ⟨w.heap.size, 4, none⟩ = some (.int .i64 p.e) := ⟨x0.cell 0 rfl, x0.cell 1 rfl, x0.cell 2 rfl, x0.cell 3 rfl, x0.cell 4 rfl⟩
  have hV := HW.out
  have hu := HU.out
  go_enter Tryz.func60, Tryz.ntmps60
  go_wp2_with fail
  go_ret
  exact ⟨_, _, rfl, Sl.of_box y0 rfl, after_ hB hU⟩
set_option maxHeartbeats 4000000 in
theorem load16_any (p : P5) (w : World) : Calls Tryz.prog 61 #[p5v p] w (RetS 1 icell w p.l) := by
  obtain ⟨V, HW, x0, hB, -⟩ := boxes1 w (p5c p) 68
  obtain ⟨U, HU, y0, hU, -⟩ := boxes1 V #[.int .i64 p.a, .int .i64 p.b, .int .i64 p.c, .int .i64 p.d, .int .i64 p.e] 3
  obtain ⟨c0, c1, c2, c3, c4⟩ : V.cell? ⟨w.heap.size, 0, none⟩ = some (.int .i64 p.a) ∧ V.cell? ⟨w.heap.size, 1, none⟩ = some (.int .i64 p.b) ∧ V.cell? ⟨w.heap.size, 2, none⟩ = some (.int .i64 p.c) ∧ V.cell? ⟨w.heap.size, 3, none⟩ = some (.int .i64 p.d) ∧ V.cell? ⟨w.heap.size, 4, none⟩ = some (.int .i64 p.e) := ⟨x0.cell 0 rfl, x0.cell 1 rfl, x0.cell 2 rfl, x0.cell 3 rfl, x0.cell 4 rfl⟩
  have hV := HW.out
  have hu := HU.out
  go_enter Tryz.func61, Tryz.ntmps61
  go_wp2_with fail
  go_ret
  exact ⟨_, _, rfl, Sl.of_box y0 rfl, after_ hB hU⟩
set_option maxHeartbeats 4000000 in
theorem limit16_any (p : P4) (w : World) : Calls Tryz.prog 62 #[p4v p] w (RetS 1 icell w p.l) := by
  obtain ⟨V, HW, x0, hB, -⟩ := boxes1 w (p4c p) 71
  obtain ⟨U, HU, y0, hU, -⟩ := boxes1 V #[.int .i64 p.a, .int .i64 p.b, .int .i64 p.c, .int .i64 p.d] 3
  obtain ⟨c0, c1, c2, c3⟩ : V.cell? ⟨w.heap.size, 0, none⟩ = some (.int .i64 p.a) ∧ V.cell? ⟨w.heap.size, 1, none⟩ = some (.int .i64 p.b) ∧ V.cell? ⟨w.heap.size, 2, none⟩ = some (.int .i64 p.c) ∧ V.cell? ⟨w.heap.size, 3, none⟩ = some (.int .i64 p.d) := ⟨x0.cell 0 rfl, x0.cell 1 rfl, x0.cell 2 rfl, x0.cell 3 rfl⟩
  have hV := HW.out
  have hu := HU.out
  go_enter Tryz.func62, Tryz.ntmps62
  go_wp2_with fail
  go_ret
  exact ⟨_, _, rfl, Sl.of_box y0 rfl, after_ hB hU⟩
set_option maxHeartbeats 8000000 in
theorem less16_any (A B : Option Addr) (c d : Nat) (xs ys : List Int) (w : World) (hA : Sl 1 icell w w.heap.size A xs) (hB : Sl 1 icell w w.heap.size B ys) (hl : xs.length = ys.length) (hn : xs.length ≤ 1000) :
    Calls Tryz.prog 59 #[.slice A xs.length c, .slice B ys.length d] w fun e w' => e = .returned (.bool (M.lessI xs ys)) ∧ Below w.heap.size w w' := by
  have HL := Lib.hid hl
  have H0 : Hid (M.lessI (xs.drop 0) (ys.drop 0) = M.lessI xs ys) := Lib.hid rfl
  obtain ⟨r, hr⟩ : ∃ r, M.lessI xs ys = r := ⟨_, rfl⟩
  rw [hr] at H0 ⊢
  clear hr hl
  go_enter Tryz.func59, Tryz.ntmps59
  go_wp2_with fail
  go_loopw [5] (fun i wr => ∃ k : Nat, k ≤ xs.length ∧ i = .int .i64 k ∧ Below w.heap.size w wr ∧ Hid (M.lessI (xs.drop k) (ys.drop k) = r)) (fun i _ => xs.length - (intOf i).toNat)
  case atStart => exact ⟨0, Nat.zero_le _, rfl, Below.refl _ _, H0⟩
  case round =>
    clear H0
    obtain ⟨k, hk, rfl, hBr, HN⟩ := hrel
    by_cases hlt : k < xs.length
    · have hlt2 : k < ys.length := by have := HL.out; omega
      obtain ⟨la, rfl, hla, a0⟩ := (hA.below hBr).int_at hlt
      obtain ⟨lb, rfl, hlb, b0⟩ := (hB.below hBr).int_at hlt2
      have HN2 : Hid ((if xs[k] = ys[k] then M.lessI (xs.drop (k + 1)) (ys.drop (k + 1)) else decide (xs[k] < ys[k])) = r) := Lib.hid (by have := HN.out; rwa [List.drop_eq_getElem_cons hlt, List.drop_eq_getElem_cons hlt2, M.lessI] at this)
      have x0 : (0 : Int) ≤ (k : Int) := by omega
      have x1 : (k : Int) < (xs.length : Int) := by omega
      have x2 : (k : Int) < (ys.length : Int) := by omega
      have s1 : (la.add k).block < wr.heap.size := by rw [add_block]; exact Nat.lt_of_lt_of_le hla hBr.size
      have s2 : (lb.add k).block < wr.heap.size := by rw [add_block]; exact Nat.lt_of_lt_of_le hlb hBr.size
      clear HN
      generalize xs[k] = x at *
      generalize ys[k] = y at *
      by_cases he : x = y
      · have HE : Hid (M.lessI (xs.drop (k + 1)) (ys.drop (k + 1)) = r) := Lib.hid (by have := HN2.out; rwa [if_pos he] at this)
        have q : (x != y) = false := by simp [he]
        clear he HN2
        go_wp2_with fail
        refine wp_region_kept wr.heap.size wr (by kernel_rfl) (by kernel_rfl) (Below.refl _ _) ?_
        repeat (go_big_quiet_step (fail))
        refine wpQuiet_nil ?_
        rintro w5 ⟨⟨_, hb5⟩, rfl⟩
        go_wp2_with fail
        go_roundw
        case rel => exact ⟨k + 1, hlt, by go_num, after_ hBr hb5, HE⟩
        case measure => simp [intOf]; omega
      · have HE : Hid (decide (x < y) = r) := Lib.hid (by have := HN2.out; rwa [if_neg he] at this)
        have q : (x != y) = true := by simp [he]
        clear he HN2
        go_wp2_with fail
        refine wp_region_kept wr.heap.size wr (by kernel_rfl) (by kernel_rfl) (Below.refl _ _) ?_
        repeat (go_big_quiet_step (fail))
        refine wpQuiet_nil ?_
        rintro w5 ⟨⟨_, hb5⟩, rfl⟩
        have sl5 := Nat.lt_of_lt_of_le s1 hb5.size
        have sl6 := Nat.lt_of_lt_of_le s2 hb5.size
        replace a0 := (hb5.cell s1).trans a0
        replace b0 := (hb5.cell s2).trans b0
        go_wp2_with fail
        refine wp_region_kept w5.heap.size w5 (by kernel_rfl) (by kernel_rfl) (Below.refl _ _) ?_
        repeat (go_big_quiet_step (fail))
        refine wpQuiet_nil ?_
        rintro w6 ⟨⟨_, hb6⟩, rfl⟩
        go_wp2_with fail
        go_ret
        exact ⟨ret_bool HE.out, after_ (after_ hBr hb5) hb6⟩
    · have HE : Hid (false = r) := Lib.hid (by have := HN.out; rwa [List.drop_eq_nil_of_le (by omega)] at this)
      go_wp2_with fail
      go_ret
      exact ⟨ret_bool HE.out, hBr⟩
end Go.Proofs.YtciolgmljpamlaaGreatDoor
end

section
namespace Go.Proofs.YtciolgmljpamlaaGreatDoor
open Go Go.RowKit
set_option maxRecDepth 100000
set_option maxHeartbeats 4000000 in
theorem number16_ok (x : Int) (w : World) : Calls Tryz.prog 57 #[.int .i64 x] w fun e w' => e = .returned (.bool (M.isIn16 x 0 511)) ∧ w = w' := by
 unfold M.isIn16
 cases q1 : decide (0 ≤ x) <;> cases q2 : decide (x ≤ 511) <;>
  (go_enter Tryz.func57, Tryz.ntmps57
   go_wp2_with fail
   go_ret
   exact ⟨rfl, rfl⟩)
set_option maxHeartbeats 4000000 in
theorem span16_ok (x y : Int) (w : World) : Calls Tryz.prog 58 #[.int .i64 x, .int .i64 y] w fun e w' => e = .returned (.bool (M.rng x y)) ∧ w = w' := by
 unfold M.rng
 cases q1 : decide (2 ≤ x) <;> cases q2 : decide (x ≤ y) <;> cases q3 : decide (y ≤ 51) <;>
  (go_enter Tryz.func58, Tryz.ntmps58
   go_wp2_with fail
   go_ret
   exact ⟨rfl, rfl⟩)
end Go.Proofs.YtciolgmljpamlaaGreatDoor
end
