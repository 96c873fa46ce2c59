/- A bundle of texts: StA, StL, StS, Serv, Clos. -/
import Derived.Test.YtciolgmljpamlaaGreatDoorC18
import Derived.Test.YtciolgmljpamlaaGreatDoorC17
import Derived.Deep.RegionHeld3
section
/- Layer 13: Equal and Copy of stations, the program's and the reference's; the reference's Cell. -/
namespace Go.Proofs.YtciolgmljpamlaaGreatDoor
open Go Go.RowKit
set_option maxRecDepth 100000
end Go.Proofs.YtciolgmljpamlaaGreatDoor
namespace Go.Proofs.YtciolgmljpamlaaGreatDoor
open Go Go.RowKit
set_option maxHeartbeats 1000000 in
theorem rCell_any (s : St) (A : Option Addr) (c : Nat) (w : World) : Calls Tryz.prog 67 #[stv s A c] w fun e w' => e = .returned (cv s.x s.y) ∧ Below w.heap.size w w' := by
  obtain ⟨id, x, y, pw, h, pat, bd, ch⟩ := s
  go_enter Tryz.func67, Tryz.ntmps67
  go_wp2_with fail
  exact bodyPost_ret (v := cv x y) (by simp [results, Tryz.results67, go_sem]) rfl ⟨rfl, ((Below.refl w.heap.size w).alloc (Nat.le_refl _) _).alloc (by simp) _⟩
end Go.Proofs.YtciolgmljpamlaaGreatDoor
/- Layer 13: Field; the reference's Field and Allowed. -/
namespace Go.Proofs.YtciolgmljpamlaaGreatDoor
open Go Go.RowKit
set_option maxRecDepth 100000
def M.okF (W H : Int) (G P : List Int) (s : St) (cx cy : Int) : Bool := M.svalid s && M.okObs W H G P s.x s.y s.h cx cy 10
def M.field (W : Int) (G : List Int) (s : St) (cx cy : Int) : Int := s.pw - M.aloss s.pat (cx - s.x) (cy - s.y) - M.tot W G s.x s.y s.h cx cy 10
theorem M.tot_bd {W H : Int} {G P : List Int} {ax ay f bx by' t : Int} (hok : M.okObs W H G P ax ay f bx by' t = true) : 0 ≤ M.tot W G ax ay f bx by' t ∧ M.tot W G ax ay f bx by' t ≤ 600 := by
  obtain ⟨-, -, hv, hia, hib⟩ := M.okObs_iff.1 hok
  obtain ⟨t1, t2, -⟩ := M.tvalid_iff.1 hv
  obtain ⟨a1, a2⟩ := M.c63_of t1 t2 hia
  obtain ⟨b1, b2⟩ := M.c63_of t1 t2 hib
  have := M.sq_bd a1 a2 b1 b2
  have := M.free_bd (n := (M.sq ax ay bx by').toNat) (by omega)
  unfold M.tot
  omega
theorem M.okF_dx {W H : Int} {G P : List Int} {s : St} {cx cy : Int} (h : M.okObs W H G P s.x s.y s.h cx cy 10 = true) : (-100 ≤ cx - s.x ∧ cx - s.x ≤ 100) ∧ (-100 ≤ cy - s.y ∧ cy - s.y ≤ 100) := by
  obtain ⟨-, -, hv, hia, hib⟩ := M.okObs_iff.1 h
  obtain ⟨t1, t2, -⟩ := M.tvalid_iff.1 hv
  obtain ⟨a1, a2⟩ := M.c63_of t1 t2 hia
  obtain ⟨b1, b2⟩ := M.c63_of t1 t2 hib
  unfold M.c63 at *
  omega
set_option maxHeartbeats 8000000 in
theorem field_ok (W H : Int) (GA PA : Option Addr) (gc pc : Nat) (G P : List Int) (s : St) (A : Option Addr) (c : Nat) (cx cy : Int) (w : World) (ht : Tab w) (hg : Sl 1 icell w w.heap.size GA G) (hp : Sl 1 icell w w.heap.size PA P) (hS : Sl 1 icell w w.heap.size A s.pat)
    (hok : M.okF W H G P s cx cy = true) : Calls Tryz.prog 108 #[tv W H GA PA G.length gc P.length pc, stv s A c, cv cx cy] w fun e w' => e = .returned (.tuple #[.int .i64 (M.field W G s cx cy), .int .i64 0]) ∧ Below w.heap.size w w' := by
  obtain ⟨V, HW, x0, x1, x2, hB, -⟩ := boxes3 w #[.int .i64 W, .int .i64 H, .slice GA G.length gc, .slice PA P.length pc] 24 (stc s A c) 40 #[.int .i64 cx, .int .i64 cy] 113
  have hg1 := (hg.below hB).more hB.size
  have hp1 := (hp.below hB).more hB.size
  have hS1 := (hS.below hB).more hB.size
  unfold M.okF at hok
  rw [Bool.and_eq_true] at hok
  obtain ⟨hv, hok⟩ := hok
  have HV := Lib.hid hv
  have HO := Lib.hid hok
  obtain ⟨-, h2, h3, h4, -, -, hav⟩ := M.svalid_iff.1 hv
  have HAV := Lib.hid hav
  have hal := (M.avalid_iff.1 hav).2.1
  have halb := M.aloss_bd (M.avalid_iff.1 hav).2.2 (cx - s.x) (cy - s.y)
  have htb := M.tot_bd hok
  obtain ⟨dx1, dx2⟩ := M.okF_dx hok
  have hl : s.pat.length ≤ 16 := by omega
  have HF : Hid (M.field W G s cx cy = s.pw - M.aloss s.pat (cx - s.x) (cy - s.y) - M.tot W G s.x s.y s.h cx cy 10) := Lib.hid rfl
  clear hv hok hav hal
  go_enter Tryz.func108, Tryz.ntmps108
  go_wp2_with fail
  rw [HW.out]
  refine (sValid_any s A c V hS1 (by omega)).mono ?_
  rintro e w1 ⟨rfl, hb1⟩
  rw [HV.out]
  have B1 := after_ hB hb1
  have y0 := x0.below hb1
  have y1 := x1.below hb1
  have y2 := x2.below hb1
  have hg2 := (hg1.below hb1).more hb1.size
  have hp2 := (hp1.below hb1).more hb1.size
  have hS2 := (hS1.below hb1).more hb1.size
  obtain ⟨U, HU, u0, hBU, -⟩ := boxes1 w1 #[.int .i64 s.x, .int .i64 s.y] 113
  have BU := after_ B1 hBU
  have z0 := y0.below hBU
  have z1 := y1.below hBU
  have z2 := y2.below hBU
  have hg3 := (hg2.below hBU).more hBU.size
  have hp3 := (hp2.below hBU).more hBU.size
  have hS3 := (hS2.below hBU).more hBU.size
  obtain ⟨a0, a1, a2, a3, a4, a5, a6, a7⟩ := y1.c8
  obtain ⟨c0, c1, c2, c3⟩ := z0.c4
  obtain ⟨b0, b1, b2, b3, b4, b5, b6, b7⟩ := z1.c8
  obtain ⟨d0, d1⟩ := z2.c2
  obtain ⟨e0, e1⟩ := u0.c2
  have hU := HU.out
  clear x0 x1 x2 hg1 hp1 hS1
  go_wp2_with fail
  clear hU
  refine (total_ok W H GA PA gc pc G P s.x s.y s.h cx cy 10 U hg3 hp3 HO.out).mono ?_
  rintro e w2 ⟨rfl, hb2⟩
  have B2 := after_ BU hb2
  clear a0 a1 a2 a3 a4 a5 a6 a7 b0 b1 b2 b3 b4 b5 b6 b7 c0 c1 c2 c3 d0 d1 e0 e1
  obtain ⟨b0, b1, b2, b3, b4, b5, b6, b7⟩ := (z1.below hb2).c8
  obtain ⟨d0, d1⟩ := (z2.below hb2).c2
  have hS4 := (hS3.below hb2).more hb2.size
  go_wp2_with fail
  refine (aLoss_ok s.h A c s.pat (cx - s.x) (cy - s.y) w2 (ht.kept B2) hS4 HAV.out dx1 dx2).mono ?_
  rintro e w3 ⟨rfl, hb3⟩
  have B3 := after_ B2 hb3
  clear b0 b1 b2 b3 b4 b5 b6 b7 d0 d1
  obtain ⟨b0, b1, b2, b3, b4, b5, b6, b7⟩ := ((z1.below hb2).below hb3).c8
  generalize M.aloss s.pat (cx - s.x) (cy - s.y) = al at *
  generalize M.tot W G s.x s.y s.h cx cy 10 = to at *
  go_wp2_with fail
  go_ret2
  exact ⟨ret_int2 HF.out.symm rfl, B3⟩
set_option maxHeartbeats 8000000 in
theorem field_no (W H : Int) (GA PA : Option Addr) (gc pc : Nat) (G P : List Int) (s : St) (A : Option Addr) (c : Nat) (cx cy : Int) (w : World) (hg : Sl 1 icell w w.heap.size GA G) (hp : Sl 1 icell w w.heap.size PA P) (hS : Sl 1 icell w w.heap.size A s.pat)
    (hgl : G.length ≤ 9223372036854775807) (hpl : P.length ≤ 9223372036854775807) (hl : s.pat.length ≤ 9223372036854775807)
    (hok : M.okF W H G P s cx cy = false) : Calls Tryz.prog 108 #[tv W H GA PA G.length gc P.length pc, stv s A c, cv cx cy] w fun e w' => e = .returned (.tuple #[.int .i64 0, .int .i64 2]) ∧ Below w.heap.size w w' := by
  obtain ⟨V, HW, x0, x1, x2, hB, -⟩ := boxes3 w #[.int .i64 W, .int .i64 H, .slice GA G.length gc, .slice PA P.length pc] 24 (stc s A c) 40 #[.int .i64 cx, .int .i64 cy] 113
  have hg1 := (hg.below hB).more hB.size
  have hp1 := (hp.below hB).more hB.size
  have hS1 := (hS.below hB).more hB.size
  unfold M.okF at hok
  have HK := Lib.hid hok
  clear hok
  go_enter Tryz.func108, Tryz.ntmps108
  go_wp2_with fail
  rw [HW.out]
  refine (sValid_any s A c V hS1 hl).mono ?_
  rintro e w1 ⟨rfl, hb1⟩
  have B1 := after_ hB hb1
  cases hv : M.svalid s with
  | false =>
    go_wp2_with fail
    go_ret2
    exact ⟨rfl, B1⟩
  | true =>
    have HO : Hid (M.okObs W H G P s.x s.y s.h cx cy 10 = false) := Lib.hid (by have := HK.out; rw [hv, Bool.true_and] at this; exact this)
    have y0 := x0.below hb1
    have y1 := x1.below hb1
    have y2 := x2.below hb1
    have hg2 := (hg1.below hb1).more hb1.size
    have hp2 := (hp1.below hb1).more hb1.size
    obtain ⟨U, HU, u0, hBU, -⟩ := boxes1 w1 #[.int .i64 s.x, .int .i64 s.y] 113
    have BU := after_ B1 hBU
    have z0 := y0.below hBU
    have z1 := y1.below hBU
    have z2 := y2.below hBU
    have hg3 := (hg2.below hBU).more hBU.size
    have hp3 := (hp2.below hBU).more hBU.size
    obtain ⟨a0, a1, a2, a3, a4, a5, a6, a7⟩ := y1.c8
    obtain ⟨c0, c1, c2, c3⟩ := z0.c4
    obtain ⟨b0, b1, b2, b3, b4, b5, b6, b7⟩ := z1.c8
    obtain ⟨d0, d1⟩ := z2.c2
    obtain ⟨e0, e1⟩ := u0.c2
    have hU := HU.out
    clear x0 x1 x2 hg1 hp1 hS1
    go_wp2_with fail
    clear hU
    refine (total_no W H GA PA gc pc G P s.x s.y s.h cx cy 10 U hg3 hp3 hgl hpl HO.out).mono ?_
    rintro e w2 ⟨rfl, hb2⟩
    go_wp2_with fail
    go_ret2
    exact ⟨rfl, after_ BU hb2⟩
end Go.Proofs.YtciolgmljpamlaaGreatDoor
/- Layer 13: the reference's Field and Allowed. -/
namespace Go.Proofs.YtciolgmljpamlaaGreatDoor
open Go Go.RowKit
set_option maxRecDepth 100000
set_option maxHeartbeats 8000000 in
theorem rField_ok (W H : Int) (GA PA : Option Addr) (gc pc : Nat) (G P : List Int) (s : St) (A : Option Addr) (c : Nat) (cx cy : Int) (w : World) (hg : Sl 1 icell w w.heap.size GA G) (hS : Sl 1 icell w w.heap.size A s.pat)
    (hok : M.okF W H G P s cx cy = true) : Calls Tryz.prog 171 #[tv W H GA PA G.length gc P.length pc, stv s A c, cv cx cy] w fun e w' => e = .returned (.int .i64 (M.field W G s cx cy)) ∧ Below w.heap.size w w' := by
  obtain ⟨V, HW, x0, x1, x2, hB, -⟩ := boxes3 w #[.int .i64 W, .int .i64 H, .slice GA G.length gc, .slice PA P.length pc] 24 (stc s A c) 40 #[.int .i64 cx, .int .i64 cy] 113
  have hg1 := (hg.below hB).more hB.size
  have hS1 := (hS.below hB).more hB.size
  unfold M.okF at hok
  rw [Bool.and_eq_true] at hok
  obtain ⟨hv, hok⟩ := hok
  have HO := Lib.hid hok
  obtain ⟨-, h2, h3, h4, -, -, hav⟩ := M.svalid_iff.1 hv
  have HAV := Lib.hid hav
  have halb := M.aloss_bd (M.avalid_iff.1 hav).2.2 (cx - s.x) (cy - s.y)
  have htb := M.tot_bd hok
  obtain ⟨dx1, dx2⟩ := M.okF_dx hok
  have HF : Hid (M.field W G s cx cy = s.pw - M.aloss s.pat (cx - s.x) (cy - s.y) - M.tot W G s.x s.y s.h cx cy 10) := Lib.hid rfl
  clear hv hok hav
  obtain ⟨c0, c1, c2, c3⟩ := x0.c4
  obtain ⟨b0, b1, b2, b3, b4, b5, b6, b7⟩ := x1.c8
  obtain ⟨d0, d1⟩ := x2.c2
  have l0 := x0.lt
  have l1 := x1.lt
  have l2 := x2.lt
  have kA : Hid (∀ w1, Sl 1 icell w1 w1.heap.size A s.pat → Calls Tryz.prog 192 #[av s.h A s.pat.length c, .int .i64 (cx - s.x), .int .i64 (cy - s.y)] w1 fun e w' => e = .returned (.int .i64 (M.aloss s.pat (cx - s.x) (cy - s.y))) ∧ Below w1.heap.size w1 w') := Lib.hid (fun w1 hh => rALoss_ok s.h A c s.pat (cx - s.x) (cy - s.y) w1 hh HAV.out dx1 dx2)
  have kT : Hid (∀ w1, Sl 1 icell w1 w1.heap.size GA G → Calls Tryz.prog 193 #[tv W H GA PA G.length gc P.length pc, cv s.x s.y, .int .i64 s.h, cv cx cy, .int .i64 10] w1 fun e w' => e = .returned (.int .i64 (M.tot W G s.x s.y s.h cx cy 10)) ∧ Below w1.heap.size w1 w') := Lib.hid (fun w1 hh => rTotal_ok W H GA PA gc pc G P s.x s.y s.h cx cy 10 w1 hh HO.out)
  go_enter Tryz.func171, Tryz.ntmps171
  go_wp2_with fail
  rw [HW.out]
  refine wp_region_kept V.heap.size V (by kernel_rfl) (by kernel_rfl) (Below.refl _ _) ?_
  repeat (go_big_quiet_step ((first | (go_at_call 192; exact Kept.calls (Nat.le_refl _) (kA.out _ hS1.kept)) | (go_at_call 67; exact Kept.calls (Nat.le_refl _) (rCell_any s A c _)) | (go_at_call 193; exact Kept.calls (Nat.le_refl _) (kT.out _ hg1.kept)))))
  refine wpQuiet_nil ?_
  rintro w1 ⟨⟨_, hb1⟩, rfl⟩
  go_wp2_with fail
  go_ret
  exact ⟨ret_int HF.out.symm, after_ hB hb1⟩
theorem M.okF_eq {W H : Int} {G P : List Int} {s : St} {cx cy : Int} : M.okF W H G P s cx cy = (M.svalid s && M.has W H G P s.x s.y && M.has W H G P cx cy) := by
  rw [Bool.eq_iff_iff]
  unfold M.okF M.has
  simp only [Bool.and_eq_true]
  constructor
  · rintro ⟨hv, ho⟩
    obtain ⟨_, _, a, b, c⟩ := M.okObs_iff.1 ho
    exact ⟨⟨hv, a, b⟩, a, c⟩
  · rintro ⟨⟨hv, a, b⟩, _, c⟩
    have := (M.avalid_iff.1 (M.svalid_iff.1 hv).2.2.2.2.2.2).1
    exact ⟨hv, M.okObs_iff.2 ⟨by omega, by omega, a, b, c⟩⟩
end Go.Proofs.YtciolgmljpamlaaGreatDoor
end

section
namespace Go.Proofs.YtciolgmljpamlaaGreatDoor
open Go Go.RowKit
set_option maxRecDepth 100000
structure SE where
  s : St
  A : Option Addr
  c : Nat
def secell (e : SE) (j : Nat) : Value := ((stc e.s e.A e.c)[j]?).getD (.int .i64 0)
theorem se_one (e : SE) (j : Nat) : (secell e j).oneCell' = true := by
  unfold secell
  match j with
  | 0 | 1 | 2 | 3 | 4 | 5 | 6 | 7 => rfl
  | j + 8 => simp; rfl
theorem seInfo : (Tryz.prog.info? 40).map (fun i => (i.zero, i.size, i.bytes)) = some (some (.agg #[.int .i64 0, .int .i64 0, .int .i64 0, .int .i64 0, .int .i64 0, .slice none 0 0, .int .i64 0, .int .i64 0]), 8, 80) := by kernel_rfl
def Pats (w : World) (es : List SE) : Prop := ∀ e ∈ es, Sl 1 icell w w.heap.size e.A e.s.pat
theorem Pats.below {w w' : World} {es : List SE} (h : Pats w es) (hb : Below w.heap.size w w') : Pats w' es := fun e he => ((h e he).below hb).more hb.size
theorem Pats.at_ {w : World} {es : List SE} (h : Pats w es) {k : Nat} (hk : k < es.length) : Sl 1 icell w w.heap.size es[k].A es[k].s.pat := h _ (List.getElem_mem hk)
theorem Sl.st8 {w : World} {B : Nat} {LA : Option Addr} {es : List SE} {k : Nat} (h : Sl 8 secell w B LA es) (hk : k < es.length) :
    ∃ la, LA = some la ∧ (la.add (k * 8)).block < B ∧ w.cell? (la.add (k * 8)) = some (.int .i64 es[k].s.id) ∧ w.cell? ⟨(la.add (k * 8)).block, (la.add (k * 8)).off + 1, none⟩ = some (.int .i64 es[k].s.x) ∧ w.cell? ⟨(la.add (k * 8)).block, (la.add (k * 8)).off + 2, none⟩ = some (.int .i64 es[k].s.y)
      ∧ w.cell? ⟨(la.add (k * 8)).block, (la.add (k * 8)).off + 3, none⟩ = some (.int .i64 es[k].s.pw) ∧ w.cell? ⟨(la.add (k * 8)).block, (la.add (k * 8)).off + 4, none⟩ = some (.int .i64 es[k].s.h) ∧ w.cell? ⟨(la.add (k * 8)).block, (la.add (k * 8)).off + 5, none⟩ = some (.slice es[k].A es[k].s.pat.length es[k].c)
      ∧ w.cell? ⟨(la.add (k * 8)).block, (la.add (k * 8)).off + 6, none⟩ = some (.int .i64 es[k].s.band) ∧ w.cell? ⟨(la.add (k * 8)).block, (la.add (k * 8)).off + 7, none⟩ = some (.int .i64 es[k].s.ch) := by
  obtain ⟨la, e, hb, h0, hj⟩ := h.sp (by decide) hk
  exact ⟨la, e, hb, h0, hj 1 (by decide) (by decide), hj 2 (by decide) (by decide), hj 3 (by decide) (by decide), hj 4 (by decide) (by decide), hj 5 (by decide) (by decide), hj 6 (by decide) (by decide), hj 7 (by decide) (by decide)⟩
set_option maxHeartbeats 2000000 in
theorem inside_some (W H : Int) (GA PA : Option Addr) (gl gc pl pc : Nat) (x y : Int) (w : World) :
    Calls Tryz.prog 204 #[tv W H GA PA gl gc pl pc, cv x y] w fun e w' => ∃ b : Bool, e = .returned (.bool b) ∧ Below w.heap.size w w' := by
  have hB0 := (Below.refl w.heap.size w).alloc (Nat.le_refl _) (.cells #[.int .i64 W, .int .i64 H, .slice GA gl gc, .slice PA pl pc] 24)
  have hB1 := hB0.alloc hB0.size (.cells #[.int .i64 x, .int .i64 y] 113)
  go_enter Tryz.func204, Tryz.ntmps204
  go_wp2_with fail
  refine (within_any x 0 _ _).mono ?_
  rintro e w1 ⟨rfl, rfl⟩
  generalize M.isIn x 0 _ = b
  cases b with
  | false =>
    go_wp2_with fail
    go_ret
    exact ⟨false, rfl, hB1⟩
  | true =>
    go_wp2_with fail
    refine (within_any y 0 _ _).mono ?_
    rintro e w1 ⟨rfl, rfl⟩
    generalize M.isIn y 0 _ = q
    go_wp2_with fail
    go_ret
    exact ⟨q, rfl, hB1⟩
set_option maxHeartbeats 4000000 in
theorem has_any (W H : Int) (GA PA : Option Addr) (gc pc : Nat) (G P : List Int) (x y : Int) (w : World) (hg : Sl 1 icell w w.heap.size GA G) (hp : Sl 1 icell w w.heap.size PA P) (hgl : G.length ≤ 9223372036854775807) (hpl : P.length ≤ 9223372036854775807) :
    Calls Tryz.prog 190 #[tv W H GA PA G.length gc P.length pc, cv x y] w fun e w' => e = .returned (.bool (M.has W H G P x y)) ∧ Below w.heap.size w w' := by
  obtain ⟨V, HW, x0, x1, hB, -⟩ := boxes2 w #[.int .i64 W, .int .i64 H, .slice GA G.length gc, .slice PA P.length pc] 24 #[.int .i64 x, .int .i64 y] 113
  have hg1 := (hg.below hB).more hB.size
  have hp1 := (hp.below hB).more hB.size
  by_cases hr : (1 ≤ W ∧ W ≤ 64) ∧ (1 ≤ H ∧ H ≤ 64)
  · obtain ⟨r1, r2⟩ := hr
    obtain ⟨r, hr⟩ : ∃ r, M.has W H G P x y = r := ⟨_, rfl⟩
    have HR := Lib.hid hr
    rw [hr]
    clear hr
    go_enter Tryz.func190, Tryz.ntmps190
    go_wp2_with fail
    rw [HW.out]
    refine (inside_any W H GA PA G.length gc P.length pc x y V r1 r2).mono ?_
    rintro e w1 ⟨rfl, hb1⟩
    have B1 := after_ hB hb1
    cases hi : M.inside W H x y with
    | false =>
      have HF : Hid (false = r) := Lib.hid (by rw [← HR.out]; unfold M.has; rw [hi, Bool.and_false])
      go_wp2_with fail
      go_ret
      exact ⟨ret_bool HF.out, B1⟩
    | true =>
      obtain ⟨c0, c1, c2, c3⟩ := (x0.below hb1).c4
      have HF : Hid (M.tvalid W H G P = r) := Lib.hid (by rw [← HR.out]; unfold M.has; rw [hi, Bool.and_true])
      go_wp2_with fail
      refine (tvalid_any W H GA PA gc pc G P w1 ((hg1.below hb1).more hb1.size) ((hp1.below hb1).more hb1.size) hgl hpl).mono ?_
      rintro e w2 ⟨rfl, hb2⟩
      rw [HF.out]
      go_wp2_with fail
      go_ret
      exact ⟨rfl, after_ B1 hb2⟩
  · have hv : M.tvalid W H G P = false := by
      cases hv : M.tvalid W H G P with
      | false => rfl
      | true => obtain ⟨b1, b2, _⟩ := M.tvalid_iff.1 hv; exact absurd ⟨b1, b2⟩ hr
    have HF : Hid (false = M.has W H G P x y) := Lib.hid (by unfold M.has; rw [hv]; rfl)
    have HV := Lib.hid hv
    clear hv hr
    go_enter Tryz.func190, Tryz.ntmps190
    go_wp2_with fail
    rw [HW.out]
    refine (inside_some W H GA PA G.length gc P.length pc x y V).mono ?_
    rintro e w1 ⟨b, rfl, hb1⟩
    have B1 := after_ hB hb1
    cases b with
    | false =>
      go_wp2_with fail
      go_ret
      exact ⟨ret_bool HF.out, B1⟩
    | true =>
      obtain ⟨c0, c1, c2, c3⟩ := (x0.below hb1).c4
      go_wp2_with fail
      refine (tvalid_any W H GA PA gc pc G P w1 ((hg1.below hb1).more hb1.size) ((hp1.below hb1).more hb1.size) hgl hpl).mono ?_
      rintro e w2 ⟨rfl, hb2⟩
      rw [HV.out]
      go_wp2_with fail
      go_ret
      exact ⟨ret_bool HF.out, after_ B1 hb2⟩
end Go.Proofs.YtciolgmljpamlaaGreatDoor
end

section
namespace Go.Proofs.YtciolgmljpamlaaGreatDoor
open Go Go.RowKit
set_option maxRecDepth 100000
theorem M.okF_iff {W H : Int} {G P : List Int} {s : St} {cx cy : Int} (hc : M.has W H G P cx cy = true) : M.okF W H G P s cx cy = true ↔ M.svalid s = true ∧ s.x < W ∧ s.y < H := by
  rw [M.okF_eq, hc, Bool.and_true, Bool.and_eq_true]
  have ht : M.tvalid W H G P = true := by unfold M.has at hc; rw [Bool.and_eq_true] at hc; exact hc.1
  constructor
  · rintro ⟨a, b⟩
    unfold M.has at b
    rw [Bool.and_eq_true] at b
    have := M.inside_iff.1 b.2
    exact ⟨a, this.1.2, this.2.2⟩
  · rintro ⟨a, b, c⟩
    obtain ⟨_, h2, h3, _⟩ := M.svalid_iff.1 a
    refine ⟨a, ?_⟩
    unfold M.has
    rw [ht, Bool.true_and]
    exact M.inside_iff.2 ⟨⟨h2.1, b⟩, h3.1, c⟩
theorem M.field_bd {W H : Int} {G P : List Int} {s : St} {cx cy : Int} (h : M.okF W H G P s cx cy = true) : -1000 ≤ M.field W G s cx cy ∧ M.field W G s cx cy ≤ 300 := by
  unfold M.okF at h
  rw [Bool.and_eq_true] at h
  obtain ⟨-, -, -, h4, -, -, hav⟩ := M.svalid_iff.1 h.1
  have h1 := M.aloss_bd (M.avalid_iff.1 hav).2.2 (cx - s.x) (cy - s.y)
  have h2 := M.tot_bd h.2
  unfold M.field
  omega
end Go.Proofs.YtciolgmljpamlaaGreatDoor
end

section
namespace Go.Proofs.YtciolgmljpamlaaGreatDoor
open Go Go.RowKit
set_option maxRecDepth 100000
def M.thr (b : Int) : Int := if b = 1 then 56 else if b = 2 then 72 else 82
def M.cov (W : Int) (G : List Int) (s : St) (cx cy : Int) : Bool := decide (M.thr s.band ≤ M.field W G s cx cy)
theorem M.band_in {s : St} (h : M.svalid s = true) : s.band = 1 ∨ s.band = 2 ∨ s.band = 3 := by
 obtain ⟨-, -, -, -, h5, h6, -⟩ := M.svalid_iff.1 h
 rw [h6]
 unfold M.band
 repeat' split
 all_goals omega
theorem M.okF_valid {W H : Int} {G P : List Int} {s : St} {cx cy : Int} (h : M.okF W H G P s cx cy = true) : M.svalid s = true := by
 unfold M.okF at h; rw [Bool.and_eq_true] at h; exact h.1
theorem ret_bi {a b : Bool} {z : Int} (h : a = b) : Ending.returned (.tuple #[.bool a, .int .i64 z]) = .returned (.tuple #[.bool b, .int .i64 z]) := by rw [h]
theorem threshold_ok (b : Int) (w : World) (h : b = 1 ∨ b = 2 ∨ b = 3) : Calls Tryz.prog 157 #[.int .i64 b] w fun e w' => e = .returned (.tuple #[.int .i64 (M.thr b), .int .i64 0]) ∧ w = w' := by
 rcases h with rfl | rfl | rfl
 all_goals
  go_enter Tryz.func157, Tryz.ntmps157
  go_wp2_with fail
  go_ret2
  exact ⟨rfl, rfl⟩
set_option maxHeartbeats 4000000 in
theorem covers_ok (W H : Int) (GA PA : Option Addr) (gc pc : Nat) (G P : List Int) (s : St) (A : Option Addr) (c : Nat) (cx cy : Int) (w : World) (ht : Tab w) (hg : Sl 1 icell w w.heap.size GA G) (hp : Sl 1 icell w w.heap.size PA P) (hS : Sl 1 icell w w.heap.size A s.pat)
  (hok : M.okF W H G P s cx cy = true) : Calls Tryz.prog 126 #[tv W H GA PA G.length gc P.length pc, stv s A c, cv cx cy] w fun e w' => e = .returned (.tuple #[.bool (M.cov W G s cx cy), .int .i64 0]) ∧ Below w.heap.size w w' := by
 obtain ⟨V, HW, x0, x1, x2, hB, -⟩ := boxes3 w #[.int .i64 W, .int .i64 H, .slice GA G.length gc, .slice PA P.length pc] 24 (stc s A c) 40 #[.int .i64 cx, .int .i64 cy] 113
 have hbd := M.band_in (M.okF_valid hok)
 obtain ⟨r, HR⟩ : ∃ r, Hid (M.cov W G s cx cy = r) := ⟨_, Lib.hid rfl⟩
 have HQ : Hid (decide (M.thr s.band ≤ M.field W G s cx cy) = r) := Lib.hid HR.out
 rw [HR.out]
 go_enter Tryz.func126, Tryz.ntmps126
 go_wp2_with fail
 rw [HW.out]
 refine (field_ok W H GA PA gc pc G P s A c cx cy V (ht.kept hB) ((hg.below hB).more hB.size) ((hp.below hB).more hB.size) ((hS.below hB).more hB.size) hok).mono ?_
 rintro e w1 ⟨rfl, hb1⟩
 obtain ⟨b0, b1, b2, b3, b4, b5, b6, b7⟩ := (x1.below hb1).c8
 clear b0 b1 b2 b3 b4 b5 b7
 go_wp2_with fail
 refine (threshold_ok s.band w1 hbd).mono ?_
 rintro e w2 ⟨rfl, rfl⟩
 generalize M.field W G s cx cy = F at *
 generalize M.thr s.band = T at *
 go_wp2_with fail
 go_ret2
 exact ⟨ret_bi HQ.out, after_ hB hb1⟩
structure Capt (w : World) (bt bs : Nat) (W H : Int) (GA PA : Option Addr) (gc pc : Nat) (G P : List Int) (s : St) (A : Option Addr) (c : Nat) : Prop where
 bt : Box w bt #[.int .i64 W, .int .i64 H, .slice GA G.length gc, .slice PA P.length pc] 24
 bs : Box w bs (stc s A c) 40
 g : Sl 1 icell w w.heap.size GA G
 p : Sl 1 icell w w.heap.size PA P
 s1 : Sl 1 icell w w.heap.size A s.pat
 tab : Tab w
theorem Capt.below {w w' : World} {bt bs : Nat} {W H : Int} {GA PA : Option Addr} {gc pc : Nat} {G P : List Int} {s : St} {A : Option Addr} {c : Nat} (h : Capt w bt bs W H GA PA gc pc G P s A c) (hb : Below w.heap.size w w') : Capt w' bt bs W H GA PA gc pc G P s A c :=
 ⟨h.bt.below hb, h.bs.below hb, (h.g.below hb).more hb.size, (h.p.below hb).more hb.size, (h.s1.below hb).more hb.size, h.tab.kept hb⟩
set_option maxHeartbeats 4000000 in
theorem cov1_ok {w : World} {bt bs : Nat} {W H : Int} {GA PA : Option Addr} {gc pc : Nat} {G P : List Int} {s : St} {A : Option Addr} {c : Nat} (h : Capt w bt bs W H GA PA gc pc G P s A c) (cx cy : Int) (hok : M.okF W H G P s cx cy = true) :
  Calls Tryz.prog 125 #[cv cx cy, .pointer (some ⟨bt, 0, none⟩), .pointer (some ⟨bs, 0, none⟩)] w fun e w' => e = .returned (.bool (M.cov W G s cx cy)) ∧ Below w.heap.size w w' := by
 obtain ⟨V, HW, x0, hB, -⟩ := boxes1 w #[.int .i64 cx, .int .i64 cy] 113
 have h1 := h.below hB
 obtain ⟨r, HR⟩ : ∃ r, Hid (M.cov W G s cx cy = r) := ⟨_, Lib.hid rfl⟩
 rw [HR.out]
 obtain ⟨c0, c1, c2, c3⟩ := h1.bt.c4
 obtain ⟨b0, b1, b2, b3, b4, b5, b6, b7⟩ := h1.bs.c8
 obtain ⟨d0, d1⟩ := x0.c2
 have hV := HW.out
 go_enter Tryz.func125, Tryz.ntmps125
 go_wp2_with fail
 clear hV
 refine (covers_ok W H GA PA gc pc G P s A c cx cy V h1.tab h1.g h1.p h1.s1 hok).mono ?_
 rintro e w1 ⟨rfl, hb1⟩
 rw [HR.out]
 go_wp2_with fail
 go_ret
 exact ⟨rfl, after_ hB hb1⟩
end Go.Proofs.YtciolgmljpamlaaGreatDoor
end

section
namespace Go.Proofs.YtciolgmljpamlaaGreatDoor
open Go Go.RowKit
set_option maxRecDepth 100000
def vcell (v : Value) (_ : Nat) : Value := v
def fv (bt bs : Nat) : Value := .func (.func 125) #[] #[.pointer (some ⟨bt, 0, none⟩), .pointer (some ⟨bs, 0, none⟩)]
def rv (bc : Nat) : Value := .func (.func 123) #[] #[.pointer (some ⟨bc, 0, none⟩)]
theorem hmfA : ∀ (fn : Fn) (first cap : Array Value) (w : World), (Instr.makeFunc fn first cap).run Tryz.prog w = .ok (.func fn first cap) w := fun _ _ _ _ => rfl
set_option maxHeartbeats 4000000 in
theorem refuses_ok {w : World} {bt bs : Nat} {W H : Int} {GA PA : Option Addr} {gc pc : Nat} {G P : List Int} {s : St} {A : Option Addr} {c : Nat} (h : Capt w bt bs W H GA PA gc pc G P s A c) (bc : Nat) (cx cy : Int) (hc : Box w bc #[.int .i64 cx, .int .i64 cy] 113) (hok : M.okF W H G P s cx cy = true) :
    Calls Tryz.prog 123 #[fv bt bs, .pointer (some ⟨bc, 0, none⟩)] w fun e w' => e = .returned (.bool (!M.cov W G s cx cy)) ∧ Below w.heap.size w w' := by
  obtain ⟨d0, d1⟩ := hc.c2
  have k := cov1_ok h cx cy hok
  generalize M.cov W G s cx cy = r at *
  unfold fv
  go_enter Tryz.func123, Tryz.ntmps123
  go_wp2_with fail
  refine k.mono ?_
  rintro e w1 ⟨rfl, hb1⟩
  go_wp2_with fail
  go_ret
  exact ⟨rfl, hb1⟩
set_option maxHeartbeats 4000000 in
theorem indexFunc_ok {w : World} {bt bs : Nat} {W H : Int} {GA PA : Option Addr} {gc pc : Nat} {G P : List Int} {s : St} {A : Option Addr} {c : Nat} (h : Capt w bt bs W H GA PA gc pc G P s A c) (bc : Nat) (cx cy : Int) (hc : Box w bc #[.int .i64 cx, .int .i64 cy] 113) (hok : M.okF W H G P s cx cy = true) (ca : Option Addr) (cc : Nat) (hca : Sl 1 vcell w w.heap.size ca [fv bt bs]) :
    Calls Tryz.prog 156 #[.slice ca 1 cc, rv bc] w fun e w' => e = .returned (.int .i64 (if M.cov W G s cx cy then -1 else 0)) ∧ Below w.heap.size w w' := by
  have k := refuses_ok h bc cx cy hc hok
  obtain ⟨ad, rfl, hab, hcell⟩ := hca 0 (by simp)
  have hc0 := hcell 0 (by decide)
  rw [show ad.add (0 * 1 + 0) = ad by simp [Addr.add]] at hc0
  replace hc0 : w.cell? ad = some (fv bt bs) := hc0
  clear hcell
  generalize M.cov W G s cx cy = r at *
  unfold rv
  go_enter Tryz.func156, Tryz.ntmps156
  go_wp2_with fail
  go_loopw [5, 8] (fun _ i wr => (i = .int .i64 0 ∧ wr = w) ∨ (i = .int .i64 1 ∧ r = true ∧ Below w.heap.size w wr)) (fun _ i _ => 1 - (intOf i).toNat)
  case atStart => exact .inl ⟨rfl, rfl⟩
  case round =>
    rcases hrel with ⟨rfl, rfl⟩ | ⟨rfl, rfl, hB⟩
    · go_wp2_with fail
      refine k.mono ?_
      rintro e w1 ⟨rfl, hb1⟩
      cases r
      · go_wp2_with fail
        go_ret
        exact ⟨rfl, hb1⟩
      · go_wp2_with fail
        go_roundw
        case rel => exact .inr ⟨rfl, trivial, hb1⟩
        case measure => simp [intOf]
    · go_wp2_with fail
      go_ret
      exact ⟨rfl, hB⟩
set_option maxHeartbeats 4000000 in
theorem containsFunc_ok {w : World} {bt bs : Nat} {W H : Int} {GA PA : Option Addr} {gc pc : Nat} {G P : List Int} {s : St} {A : Option Addr} {c : Nat} (h : Capt w bt bs W H GA PA gc pc G P s A c) (bc : Nat) (cx cy : Int) (hc : Box w bc #[.int .i64 cx, .int .i64 cy] 113) (hok : M.okF W H G P s cx cy = true) (ca : Option Addr) (cc : Nat) (hca : Sl 1 vcell w w.heap.size ca [fv bt bs]) :
    Calls Tryz.prog 124 #[.slice ca 1 cc, rv bc] w fun e w' => e = .returned (.bool (!M.cov W G s cx cy)) ∧ Below w.heap.size w w' := by
  have k := indexFunc_ok h bc cx cy hc hok ca cc hca
  generalize M.cov W G s cx cy = r at *
  cases r
  all_goals
    go_enter Tryz.func124, Tryz.ntmps124
    go_wp2_with fail
    refine k.mono ?_
    rintro e w1 ⟨rfl, hb1⟩
    go_wp2_with fail
    go_ret
    exact ⟨rfl, hb1⟩
set_option maxHeartbeats 4000000 in
theorem coveredBy_ok (W H : Int) (GA PA : Option Addr) (gc pc : Nat) (G P : List Int) (s : St) (A : Option Addr) (c : Nat) (w : World) :
    Calls Tryz.prog 94 #[tv W H GA PA G.length gc P.length pc, stv s A c] w fun e w' => e = .returned (fv w.heap.size (w.heap.size + 1)) ∧ Below w.heap.size w w' ∧ w'.heap.size = w.heap.size + 2 ∧ Box w' w.heap.size #[.int .i64 W, .int .i64 H, .slice GA G.length gc, .slice PA P.length pc] 24 ∧ Box w' (w.heap.size + 1) (stc s A c) 40 := by
  obtain ⟨V, HW, x0, x1, hB, hs⟩ := boxes2 w #[.int .i64 W, .int .i64 H, .slice GA G.length gc, .slice PA P.length pc] 24 (stc s A c) 40
  have HS := Lib.hid hs
  clear hs
  have hmf := hmfA
  go_enter Tryz.func94, Tryz.ntmps94
  go_wp2_with fail
  rw [HW.out]
  go_ret
  exact ⟨rfl, hB, HS.out, x0, x1⟩
def cvv (b1 b2 : Nat) : Value := .func (.func 122) #[] #[.pointer (some ⟨b1, 0, none⟩), .pointer (some ⟨b2, 0, none⟩)]
set_option maxHeartbeats 4000000 in
theorem cells_ok (W H : Int) (GA PA : Option Addr) (gc pc gl pl : Nat) (ca : Option Addr) (cn cc : Nat) (w : World) :
    Calls Tryz.prog 93 #[tv W H GA PA gl gc pl pc, .slice ca cn cc] w fun e w' => e = .returned (cvv w.heap.size (w.heap.size + 1)) ∧ Below w.heap.size w w' ∧ w'.heap.size = w.heap.size + 2 ∧ Box w' w.heap.size #[.int .i64 W, .int .i64 H, .slice GA gl gc, .slice PA pl pc] 24 ∧ Box w' (w.heap.size + 1) #[.slice ca cn cc] 158 := by
  obtain ⟨V, HW, x0, x1, hB, hs⟩ := boxes2 w #[.int .i64 W, .int .i64 H, .slice GA gl gc, .slice PA pl pc] 24 #[.slice ca cn cc] 158
  have HS := Lib.hid hs
  clear hs
  have hmf := hmfA
  go_enter Tryz.func93, Tryz.ntmps93
  go_wp2_with fail
  rw [HW.out]
  go_ret
  exact ⟨rfl, hB, HS.out, x0, x1⟩
end Go.Proofs.YtciolgmljpamlaaGreatDoor
end
