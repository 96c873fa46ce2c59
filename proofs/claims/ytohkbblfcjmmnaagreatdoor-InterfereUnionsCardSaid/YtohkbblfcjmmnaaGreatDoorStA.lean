import Derived.Test.YtohkbblfcjmmnaaGreatDoorSt
import Derived.Test.YtohkbblfcjmmnaaGreatDoorStep
import Derived.Deep.RegionHeld3
/- Layer 13: Equal and Copy of stations, the program's and the reference's; the reference's Cell. -/
namespace Go.Proofs.YtohkbblfcjmmnaaGreatDoor
open Go Go.RowKit
set_option maxRecDepth 100000

/-- A call that returns a station whose pattern is the call's own. -/
def RetSt (w : World) (s : St) (e : Ending) (w' : World) : Prop :=
  ∃ A c, e = .returned (stv s A c) ∧ w'.ownsRow w.heap.size 3 1 (.slice A s.pat.length c) s.pat.length (flat 1 icell s.pat) ∧ Below w.heap.size w w'

end Go.Proofs.YtohkbblfcjmmnaaGreatDoor
namespace Go.Proofs.YtohkbblfcjmmnaaGreatDoor
open Go Go.RowKit
set_option maxHeartbeats 1000000 in
theorem rCell_any (s : St) (A : Option Addr) (c : Nat) (w : World) : Calls Tryz.prog 38 #[stv s A c] w fun e w' => e = .returned (cv s.x s.y) ∧ Below w.heap.size w w' := by
  obtain ⟨id, x, y, pw, h, pat, bd, ch⟩ := s
  go_enter Tryz.func38, Tryz.ntmps38
  go_wp2_with fail
  exact bodyPost_ret (v := cv x y) (by simp [results, Tryz.results38, go_sem]) rfl ⟨rfl, ((Below.refl w.heap.size w).alloc (Nat.le_refl _) _).alloc (by simp) _⟩
end Go.Proofs.YtohkbblfcjmmnaaGreatDoor

/- Layer 13: Field; the reference's Field and Allowed. -/
namespace Go.Proofs.YtohkbblfcjmmnaaGreatDoor
open Go Go.RowKit
set_option maxRecDepth 100000

def M.okF (W H : Int) (G P : List Int) (s : St) (cx cy : Int) : Bool := M.svalid s && M.okObs W H G P s.x s.y s.h cx cy 10
def M.field (W : Int) (G : List Int) (s : St) (cx cy : Int) : Int := s.pw - M.aloss s.pat (cx - s.x) (cy - s.y) - M.tot W G s.x s.y s.h cx cy 10
theorem M.tot_bd {W H : Int} {G P : List Int} {ax ay f bx by' t : Int} (hok : M.okObs W H G P ax ay f bx by' t = true) : 0 ≤ M.tot W G ax ay f bx by' t ∧ M.tot W G ax ay f bx by' t ≤ 600 := by
  obtain ⟨-, -, hv, hia, hib⟩ := M.okObs_iff.1 hok
  obtain ⟨t1, t2, -⟩ := M.tvalid_iff.1 hv
  obtain ⟨a1, a2⟩ := M.c63_of t1 t2 hia
  obtain ⟨b1, b2⟩ := M.c63_of t1 t2 hib
  have := M.sq_bd a1 a2 b1 b2
  have := M.free_bd (n := (M.sq ax ay bx by').toNat) (by omega)
  unfold M.tot
  omega
theorem M.okF_dx {W H : Int} {G P : List Int} {s : St} {cx cy : Int} (h : M.okObs W H G P s.x s.y s.h cx cy 10 = true) : (-100 ≤ cx - s.x ∧ cx - s.x ≤ 100) ∧ (-100 ≤ cy - s.y ∧ cy - s.y ≤ 100) := by
  obtain ⟨-, -, hv, hia, hib⟩ := M.okObs_iff.1 h
  obtain ⟨t1, t2, -⟩ := M.tvalid_iff.1 hv
  obtain ⟨a1, a2⟩ := M.c63_of t1 t2 hia
  obtain ⟨b1, b2⟩ := M.c63_of t1 t2 hib
  unfold M.c63 at *
  omega

set_option maxHeartbeats 8000000 in
theorem field_ok (W H : Int) (GA PA : Option Addr) (gc pc : Nat) (G P : List Int) (s : St) (A : Option Addr) (c : Nat) (cx cy : Int) (w : World) (ht : Tab w) (hg : Sl 1 icell w w.heap.size GA G) (hp : Sl 1 icell w w.heap.size PA P) (hS : Sl 1 icell w w.heap.size A s.pat)
    (hok : M.okF W H G P s cx cy = true) : Calls Tryz.prog 51 #[tv W H GA PA G.length gc P.length pc, stv s A c, cv cx cy] w fun e w' => e = .returned (.tuple #[.int .i64 (M.field W G s cx cy), .int .i64 0]) ∧ Below w.heap.size w w' := by
  obtain ⟨V, HW, x0, x1, x2, hB, -⟩ := boxes3 w #[.int .i64 W, .int .i64 H, .slice GA G.length gc, .slice PA P.length pc] 24 (stc s A c) 28 #[.int .i64 cx, .int .i64 cy] 60
  have hg1 := (hg.below hB).more hB.size
  have hp1 := (hp.below hB).more hB.size
  have hS1 := (hS.below hB).more hB.size
  unfold M.okF at hok
  rw [Bool.and_eq_true] at hok
  obtain ⟨hv, hok⟩ := hok
  have HV := Lib.hid hv
  have HO := Lib.hid hok
  obtain ⟨-, h2, h3, h4, -, -, hav⟩ := M.svalid_iff.1 hv
  have HAV := Lib.hid hav
  have hal := (M.avalid_iff.1 hav).2.1
  have halb := M.aloss_bd (M.avalid_iff.1 hav).2.2 (cx - s.x) (cy - s.y)
  have htb := M.tot_bd hok
  obtain ⟨dx1, dx2⟩ := M.okF_dx hok
  have hl : s.pat.length ≤ 16 := by omega
  have HF : Hid (M.field W G s cx cy = s.pw - M.aloss s.pat (cx - s.x) (cy - s.y) - M.tot W G s.x s.y s.h cx cy 10) := Lib.hid rfl
  clear hv hok hav hal
  go_enter Tryz.func51, Tryz.ntmps51
  go_wp2_with fail
  rw [HW.out]
  refine (sValid_any s A c V hS1 (by omega)).mono ?_
  rintro e w1 ⟨rfl, hb1⟩
  rw [HV.out]
  have B1 := after_ hB hb1
  have y0 := x0.below hb1
  have y1 := x1.below hb1
  have y2 := x2.below hb1
  have hg2 := (hg1.below hb1).more hb1.size
  have hp2 := (hp1.below hb1).more hb1.size
  have hS2 := (hS1.below hb1).more hb1.size
  obtain ⟨U, HU, u0, hBU, -⟩ := boxes1 w1 #[.int .i64 s.x, .int .i64 s.y] 60
  have BU := after_ B1 hBU
  have z0 := y0.below hBU
  have z1 := y1.below hBU
  have z2 := y2.below hBU
  have hg3 := (hg2.below hBU).more hBU.size
  have hp3 := (hp2.below hBU).more hBU.size
  have hS3 := (hS2.below hBU).more hBU.size
  obtain ⟨a0, a1, a2, a3, a4, a5, a6, a7⟩ := y1.c8
  obtain ⟨c0, c1, c2, c3⟩ := z0.c4
  obtain ⟨b0, b1, b2, b3, b4, b5, b6, b7⟩ := z1.c8
  obtain ⟨d0, d1⟩ := z2.c2
  obtain ⟨e0, e1⟩ := u0.c2
  have hU := HU.out
  clear x0 x1 x2 hg1 hp1 hS1
  go_wp2_with fail
  clear hU
  refine (total_ok W H GA PA gc pc G P s.x s.y s.h cx cy 10 U hg3 hp3 HO.out).mono ?_
  rintro e w2 ⟨rfl, hb2⟩
  have B2 := after_ BU hb2
  clear a0 a1 a2 a3 a4 a5 a6 a7 b0 b1 b2 b3 b4 b5 b6 b7 c0 c1 c2 c3 d0 d1 e0 e1
  obtain ⟨b0, b1, b2, b3, b4, b5, b6, b7⟩ := (z1.below hb2).c8
  obtain ⟨d0, d1⟩ := (z2.below hb2).c2
  have hS4 := (hS3.below hb2).more hb2.size
  go_wp2_with fail
  refine (aLoss_ok s.h A c s.pat (cx - s.x) (cy - s.y) w2 (ht.kept B2) hS4 HAV.out dx1 dx2).mono ?_
  rintro e w3 ⟨rfl, hb3⟩
  have B3 := after_ B2 hb3
  clear b0 b1 b2 b3 b4 b5 b6 b7 d0 d1
  obtain ⟨b0, b1, b2, b3, b4, b5, b6, b7⟩ := ((z1.below hb2).below hb3).c8
  generalize M.aloss s.pat (cx - s.x) (cy - s.y) = al at *
  generalize M.tot W G s.x s.y s.h cx cy 10 = to at *
  go_wp2_with fail
  go_ret2
  exact ⟨ret_int2 HF.out.symm rfl, B3⟩

set_option maxHeartbeats 8000000 in
theorem field_no (W H : Int) (GA PA : Option Addr) (gc pc : Nat) (G P : List Int) (s : St) (A : Option Addr) (c : Nat) (cx cy : Int) (w : World) (hg : Sl 1 icell w w.heap.size GA G) (hp : Sl 1 icell w w.heap.size PA P) (hS : Sl 1 icell w w.heap.size A s.pat)
    (hgl : G.length ≤ 9223372036854775806) (hpl : P.length ≤ 9223372036854775806) (hl : s.pat.length ≤ 9223372036854775806)
    (hok : M.okF W H G P s cx cy = false) : Calls Tryz.prog 51 #[tv W H GA PA G.length gc P.length pc, stv s A c, cv cx cy] w fun e w' => e = .returned (.tuple #[.int .i64 0, .int .i64 2]) ∧ Below w.heap.size w w' := by
  obtain ⟨V, HW, x0, x1, x2, hB, -⟩ := boxes3 w #[.int .i64 W, .int .i64 H, .slice GA G.length gc, .slice PA P.length pc] 24 (stc s A c) 28 #[.int .i64 cx, .int .i64 cy] 60
  have hg1 := (hg.below hB).more hB.size
  have hp1 := (hp.below hB).more hB.size
  have hS1 := (hS.below hB).more hB.size
  unfold M.okF at hok
  have HK := Lib.hid hok
  clear hok
  go_enter Tryz.func51, Tryz.ntmps51
  go_wp2_with fail
  rw [HW.out]
  refine (sValid_any s A c V hS1 hl).mono ?_
  rintro e w1 ⟨rfl, hb1⟩
  have B1 := after_ hB hb1
  cases hv : M.svalid s with
  | false =>
    go_wp2_with fail
    go_ret2
    exact ⟨rfl, B1⟩
  | true =>
    have HO : Hid (M.okObs W H G P s.x s.y s.h cx cy 10 = false) := Lib.hid (by have := HK.out; rw [hv, Bool.true_and] at this; exact this)
    have y0 := x0.below hb1
    have y1 := x1.below hb1
    have y2 := x2.below hb1
    have hg2 := (hg1.below hb1).more hb1.size
    have hp2 := (hp1.below hb1).more hb1.size
    obtain ⟨U, HU, u0, hBU, -⟩ := boxes1 w1 #[.int .i64 s.x, .int .i64 s.y] 60
    have BU := after_ B1 hBU
    have z0 := y0.below hBU
    have z1 := y1.below hBU
    have z2 := y2.below hBU
    have hg3 := (hg2.below hBU).more hBU.size
    have hp3 := (hp2.below hBU).more hBU.size
    obtain ⟨a0, a1, a2, a3, a4, a5, a6, a7⟩ := y1.c8
    obtain ⟨c0, c1, c2, c3⟩ := z0.c4
    obtain ⟨b0, b1, b2, b3, b4, b5, b6, b7⟩ := z1.c8
    obtain ⟨d0, d1⟩ := z2.c2
    obtain ⟨e0, e1⟩ := u0.c2
    have hU := HU.out
    clear x0 x1 x2 hg1 hp1 hS1
    go_wp2_with fail
    clear hU
    refine (total_no W H GA PA gc pc G P s.x s.y s.h cx cy 10 U hg3 hp3 hgl hpl HO.out).mono ?_
    rintro e w2 ⟨rfl, hb2⟩
    go_wp2_with fail
    go_ret2
    exact ⟨rfl, after_ BU hb2⟩
end Go.Proofs.YtohkbblfcjmmnaaGreatDoor

/- Layer 13: the reference's Field and Allowed. -/
namespace Go.Proofs.YtohkbblfcjmmnaaGreatDoor
open Go Go.RowKit
set_option maxRecDepth 100000

set_option maxHeartbeats 8000000 in
theorem rField_ok (W H : Int) (GA PA : Option Addr) (gc pc : Nat) (G P : List Int) (s : St) (A : Option Addr) (c : Nat) (cx cy : Int) (w : World) (hg : Sl 1 icell w w.heap.size GA G) (hS : Sl 1 icell w w.heap.size A s.pat)
    (hok : M.okF W H G P s cx cy = true) : Calls Tryz.prog 41 #[tv W H GA PA G.length gc P.length pc, stv s A c, cv cx cy] w fun e w' => e = .returned (.int .i64 (M.field W G s cx cy)) ∧ Below w.heap.size w w' := by
  obtain ⟨V, HW, x0, x1, x2, hB, -⟩ := boxes3 w #[.int .i64 W, .int .i64 H, .slice GA G.length gc, .slice PA P.length pc] 24 (stc s A c) 28 #[.int .i64 cx, .int .i64 cy] 60
  have hg1 := (hg.below hB).more hB.size
  have hS1 := (hS.below hB).more hB.size
  unfold M.okF at hok
  rw [Bool.and_eq_true] at hok
  obtain ⟨hv, hok⟩ := hok
  have HO := Lib.hid hok
  obtain ⟨-, h2, h3, h4, -, -, hav⟩ := M.svalid_iff.1 hv
  have HAV := Lib.hid hav
  have halb := M.aloss_bd (M.avalid_iff.1 hav).2.2 (cx - s.x) (cy - s.y)
  have htb := M.tot_bd hok
  obtain ⟨dx1, dx2⟩ := M.okF_dx hok
  have HF : Hid (M.field W G s cx cy = s.pw - M.aloss s.pat (cx - s.x) (cy - s.y) - M.tot W G s.x s.y s.h cx cy 10) := Lib.hid rfl
  clear hv hok hav
  obtain ⟨c0, c1, c2, c3⟩ := x0.c4
  obtain ⟨b0, b1, b2, b3, b4, b5, b6, b7⟩ := x1.c8
  obtain ⟨d0, d1⟩ := x2.c2
  have l0 := x0.lt
  have l1 := x1.lt
  have l2 := x2.lt
  have kA : Hid (∀ w1, Sl 1 icell w1 w1.heap.size A s.pat → Calls Tryz.prog 56 #[av s.h A s.pat.length c, .int .i64 (cx - s.x), .int .i64 (cy - s.y)] w1 fun e w' => e = .returned (.int .i64 (M.aloss s.pat (cx - s.x) (cy - s.y))) ∧ Below w1.heap.size w1 w') := Lib.hid (fun w1 hh => rALoss_ok s.h A c s.pat (cx - s.x) (cy - s.y) w1 hh HAV.out dx1 dx2)
  have kT : Hid (∀ w1, Sl 1 icell w1 w1.heap.size GA G → Calls Tryz.prog 57 #[tv W H GA PA G.length gc P.length pc, cv s.x s.y, .int .i64 s.h, cv cx cy, .int .i64 10] w1 fun e w' => e = .returned (.int .i64 (M.tot W G s.x s.y s.h cx cy 10)) ∧ Below w1.heap.size w1 w') := Lib.hid (fun w1 hh => rTotal_ok W H GA PA gc pc G P s.x s.y s.h cx cy 10 w1 hh HO.out)
  go_enter Tryz.func41, Tryz.ntmps41
  go_wp2_with fail
  rw [HW.out]
  refine wp_region_kept V.heap.size V (by kernel_rfl) (by kernel_rfl) (Below.refl _ _) ?_
  repeat (go_big_quiet_step ((first | (go_at_call 56; exact Kept.calls (Nat.le_refl _) (kA.out _ hS1.kept)) | (go_at_call 38; exact Kept.calls (Nat.le_refl _) (rCell_any s A c _)) | (go_at_call 57; exact Kept.calls (Nat.le_refl _) (kT.out _ hg1.kept)))))
  refine wpQuiet_nil ?_
  rintro w1 ⟨⟨_, hb1⟩, rfl⟩
  go_wp2_with fail
  go_ret
  exact ⟨ret_int HF.out.symm, after_ hB hb1⟩

theorem M.okF_eq {W H : Int} {G P : List Int} {s : St} {cx cy : Int} : M.okF W H G P s cx cy = (M.svalid s && M.has W H G P s.x s.y && M.has W H G P cx cy) := by
  rw [Bool.eq_iff_iff]
  unfold M.okF M.has
  simp only [Bool.and_eq_true]
  constructor
  · rintro ⟨hv, ho⟩
    obtain ⟨_, _, a, b, c⟩ := M.okObs_iff.1 ho
    exact ⟨⟨hv, a, b⟩, a, c⟩
  · rintro ⟨⟨hv, a, b⟩, _, c⟩
    have := (M.avalid_iff.1 (M.svalid_iff.1 hv).2.2.2.2.2.2).1
    exact ⟨hv, M.okObs_iff.2 ⟨by omega, by omega, a, b, c⟩⟩

end Go.Proofs.YtohkbblfcjmmnaaGreatDoor