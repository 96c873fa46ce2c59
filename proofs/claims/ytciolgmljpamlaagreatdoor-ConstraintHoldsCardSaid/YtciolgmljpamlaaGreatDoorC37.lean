/- A bundle of texts: Rf2. -/
import Derived.Test.YtciolgmljpamlaaGreatDoorC23
import Derived.Test.YtciolgmljpamlaaGreatDoorC26
import Derived.Deep.RegionHeld3
section
namespace Go.Proofs.YtciolgmljpamlaaGreatDoor
open Go Go.RowKit
set_option maxRecDepth 100000
set_option maxHeartbeats 16000000 in
theorem loses16_ok (W H : Int) (GA PA : Option Addr) (gc pc : Nat) (G P : List Int) (a b : St) (A B : Option Addr) (c d : Nat) (o : Int) (w : World) (hg : Sl 1 icell w w.heap.size GA G) (hp : Sl 1 icell w w.heap.size PA P) (hS : Sl 1 icell w w.heap.size A a.pat) (hT : Sl 1 icell w w.heap.size B b.pat) (hoa : M.okS W H G P a = true) (hob : M.okS W H G P b = true) :
  Calls Tryz.prog 69 #[tv W H GA PA G.length gc P.length pc, stv a A c, stv b B d, .int .i64 o] w fun e w' => e = .returned (.int .i64 (M.total P (M.lost W H G a (M.ratio o) [b]))) ∧ Below w.heap.size w w' := by
 obtain ⟨V, HW, x0, x1, x2, hB, -⟩ := boxes3 w #[.int .i64 W, .int .i64 H, .slice GA G.length gc, .slice PA P.length pc] 24 (stc a A c) 40 (stc b B d) 40
 obtain ⟨-, htv, -, -⟩ := M.okS_iff.1 hoa
 obtain ⟨r1, r2, r3, r4, r5, r6⟩ := M.tvalid_iff.1 htv
 have hwh := M.wh_le r1 r2
 have hll : (M.lost W H G a (M.ratio o) [b]).length ≤ 100000 := Nat.le_trans M.lost_len (by omega)
 have kC : Hid (∀ wx, Below V.heap.size V wx → Calls Tryz.prog 104 #[tv W H GA PA G.length gc P.length pc, stv a A c, stv b B d, .int .i64 o] wx (RetS 1 icell wx (M.lost W H G a (M.ratio o) [b]))) := Lib.hid (fun wx hbx => by
  have hb := after_ hB hbx
  exact rCells15_ok W H GA PA gc pc G P a b A B c d o wx ((hg.below hb).more hb.size) ((hS.below hb).more hb.size) ((hT.below hb).more hb.size) hoa hob)
 have kP : Hid (∀ wx (CA : Option Addr) (cc : Nat), Below V.heap.size V wx → Sl 1 icell wx wx.heap.size CA (M.lost W H G a (M.ratio o) [b]) → Calls Tryz.prog 103 #[tv W H GA PA G.length gc P.length pc, .slice CA (M.lost W H G a (M.ratio o) [b]).length cc] wx fun e w' => e = .returned (.int .i64 (M.total P (M.lost W H G a (M.ratio o) [b]))) ∧ Below wx.heap.size wx w') := Lib.hid (fun wx CA cc hbx hs => by
  have hb := after_ hB hbx
  exact rPeople15_ok W H GA PA gc pc G.length P CA cc _ wx ((hp.below hb).more hb.size) hs r1 r2 r4 r6 hll M.lost_in)
 have hel : ∀ wx, Below V.heap.size V wx → wx.cell? ⟨w.heap.size, 0, none⟩ = some (.int .i64 W) ∧ wx.cell? ⟨w.heap.size, 1, none⟩ = some (.int .i64 H) ∧ wx.cell? ⟨w.heap.size, 2, none⟩ = some (.slice GA G.length gc) ∧ wx.cell? ⟨w.heap.size, 3, none⟩ = some (.slice PA P.length pc) ∧ wx.cell? ⟨w.heap.size + 1, 0, none⟩ = some (.int .i64 a.id) ∧ wx.cell? ⟨w.heap.size + 1, 1, none⟩ = some (.int .i64 a.x) ∧ wx.cell? ⟨w.heap.size + 1, 2, none⟩ = some (.int .i64 a.y) ∧ wx.cell? ⟨w.heap.size + 1, 3, none⟩ = some (.int .i64 a.pw) ∧ wx.cell? ⟨w.heap.size + 1, 4, none⟩ = some (.int .i64 a.h) ∧ wx.cell? ⟨w.heap.size + 1, 5, none⟩ = some (.slice A a.pat.length c) ∧ wx.cell? ⟨w.heap.size + 1, 6, none⟩ = some (.int .i64 a.band) ∧ wx.cell? ⟨w.heap.size + 1, 7, none⟩ = some (.int .i64 a.ch) ∧ wx.cell? ⟨w.heap.size + 2, 0, none⟩ = some (.int .i64 b.id) ∧ wx.cell? ⟨w.heap.size + 2, 1, none⟩ = some (.int .i64 b.x) ∧ wx.cell? ⟨w.heap.size + 2, 2, none⟩ = some (.int .i64 b.y) ∧ wx.cell? ⟨w.heap.size + 2, 3, none⟩ = some (.int .i64 b.pw) ∧ wx.cell? ⟨w.heap.size + 2, 4, none⟩ = some (.int .i64 b.h) ∧ wx.cell? ⟨w.heap.size + 2, 5, none⟩ = some (.slice B b.pat.length d) ∧ wx.cell? ⟨w.heap.size + 2, 6, none⟩ = some (.int .i64 b.band) ∧ wx.cell? ⟨w.heap.size + 2, 7, none⟩ = some (.int .i64 b.ch) := fun wx hbx => by
  obtain ⟨t0, t1, t2, t3⟩ := (x0.below hbx).c4
  obtain ⟨a0, a1, a2, a3, a4, a5, a6, a7⟩ := (x1.below hbx).c8
  obtain ⟨b0, b1, b2, b3, b4, b5, b6, b7⟩ := (x2.below hbx).c8
  exact ⟨t0, t1, t2, t3, a0, a1, a2, a3, a4, a5, a6, a7, b0, b1, b2, b3, b4, b5, b6, b7⟩
 have h0 := hel _ (Below.refl _ _)
 have h1 := hel _ (Below.refl V.heap.size V).drew
 have hc : Below V.heap.size V V.drew := (Below.refl _ _).drew
 generalize M.total P (M.lost W H G a (M.ratio o) [b]) = r at *
 generalize M.lost W H G a (M.ratio o) [b] = ll at *
 go_enter Tryz.func69, Tryz.ntmps69
 go_wp2_with fail
 rw [HW.out]
 go_region_held3 (fun w' => w'.cell? ⟨w.heap.size, 0, none⟩ = some (.int .i64 W) ∧ w'.cell? ⟨w.heap.size, 1, none⟩ = some (.int .i64 H) ∧ w'.cell? ⟨w.heap.size, 2, none⟩ = some (.slice GA G.length gc) ∧ w'.cell? ⟨w.heap.size, 3, none⟩ = some (.slice PA P.length pc) ∧ w'.cell? ⟨w.heap.size + 1, 0, none⟩ = some (.int .i64 a.id) ∧ w'.cell? ⟨w.heap.size + 1, 1, none⟩ = some (.int .i64 a.x) ∧ w'.cell? ⟨w.heap.size + 1, 2, none⟩ = some (.int .i64 a.y) ∧ w'.cell? ⟨w.heap.size + 1, 3, none⟩ = some (.int .i64 a.pw) ∧ w'.cell? ⟨w.heap.size + 1, 4, none⟩ = some (.int .i64 a.h) ∧ w'.cell? ⟨w.heap.size + 1, 5, none⟩ = some (.slice A a.pat.length c) ∧ w'.cell? ⟨w.heap.size + 1, 6, none⟩ = some (.int .i64 a.band) ∧ w'.cell? ⟨w.heap.size + 1, 7, none⟩ = some (.int .i64 a.ch) ∧ w'.cell? ⟨w.heap.size + 2, 0, none⟩ = some (.int .i64 b.id) ∧ w'.cell? ⟨w.heap.size + 2, 1, none⟩ = some (.int .i64 b.x) ∧ w'.cell? ⟨w.heap.size + 2, 2, none⟩ = some (.int .i64 b.y) ∧ w'.cell? ⟨w.heap.size + 2, 3, none⟩ = some (.int .i64 b.pw) ∧ w'.cell? ⟨w.heap.size + 2, 4, none⟩ = some (.int .i64 b.h) ∧ w'.cell? ⟨w.heap.size + 2, 5, none⟩ = some (.slice B b.pat.length d) ∧ w'.cell? ⟨w.heap.size + 2, 6, none⟩ = some (.int .i64 b.band) ∧ w'.cell? ⟨w.heap.size + 2, 7, none⟩ = some (.int .i64 b.ch)) (first | with_reducible exact h0 | with_reducible exact h1 | with_reducible exact hel _ hc)
  (first
   | (go_at_call 104; (refine (kC.out _ hc).mono ?_; rintro e wa ⟨CA, cc, rfl, SC, hba⟩; replace hc := hc.trans (hba.mono hc.size); clear hba))
   | (go_at_call 103; (refine (kP.out _ CA cc hc SC).mono ?_; rintro e wb ⟨rfl, hbb⟩; replace hc := hc.trans (hbb.mono hc.size); clear hbb)))
 all_goals
  go_wp2_with fail
  go_ret
  exact ⟨rfl, after_ hB hc⟩
set_option maxHeartbeats 16000000 in
theorem people16_ok (W H : Int) (GA PA : Option Addr) (gc pc : Nat) (G P : List Int) (a : St) (A : Option Addr) (c : Nat) (w : World) (hg : Sl 1 icell w w.heap.size GA G) (hp : Sl 1 icell w w.heap.size PA P) (hS : Sl 1 icell w w.heap.size A a.pat) (hoa : M.okS W H G P a = true) :
  Calls Tryz.prog 70 #[tv W H GA PA G.length gc P.length pc, stv a A c] w fun e w' => e = .returned (.int .i64 (M.total P (M.area W H G a))) ∧ Below w.heap.size w w' := by
 obtain ⟨V, HW, x0, x1, hB, -⟩ := boxes2 w #[.int .i64 W, .int .i64 H, .slice GA G.length gc, .slice PA P.length pc] 24 (stc a A c) 40
 obtain ⟨-, htv, -, -⟩ := M.okS_iff.1 hoa
 obtain ⟨r1, r2, r3, r4, r5, r6⟩ := M.tvalid_iff.1 htv
 have hwh := M.wh_le r1 r2
 have hll : (M.area W H G a).length ≤ 100000 := Nat.le_trans M.area_len (by omega)
 have kC : Hid (∀ wx, Below V.heap.size V wx → Calls Tryz.prog 105 #[tv W H GA PA G.length gc P.length pc, stv a A c] wx (RetS 1 icell wx (M.area W H G a))) := Lib.hid (fun wx hbx => by
  have hb := after_ hB hbx
  exact rArea_ok W H GA PA gc pc G P a A c wx ((hg.below hb).more hb.size) ((hS.below hb).more hb.size) hoa)
 have kP : Hid (∀ wx (CA : Option Addr) (cc : Nat), Below V.heap.size V wx → Sl 1 icell wx wx.heap.size CA (M.area W H G a) → Calls Tryz.prog 103 #[tv W H GA PA G.length gc P.length pc, .slice CA (M.area W H G a).length cc] wx fun e w' => e = .returned (.int .i64 (M.total P (M.area W H G a))) ∧ Below wx.heap.size wx w') := Lib.hid (fun wx CA cc hbx hs => by
  have hb := after_ hB hbx
  exact rPeople15_ok W H GA PA gc pc G.length P CA cc _ wx ((hp.below hb).more hb.size) hs r1 r2 r4 r6 hll M.area_in)
 have hel : ∀ wx, Below V.heap.size V wx → wx.cell? ⟨w.heap.size, 0, none⟩ = some (.int .i64 W) ∧ wx.cell? ⟨w.heap.size, 1, none⟩ = some (.int .i64 H) ∧ wx.cell? ⟨w.heap.size, 2, none⟩ = some (.slice GA G.length gc) ∧ wx.cell? ⟨w.heap.size, 3, none⟩ = some (.slice PA P.length pc) ∧ wx.cell? ⟨w.heap.size + 1, 0, none⟩ = some (.int .i64 a.id) ∧ wx.cell? ⟨w.heap.size + 1, 1, none⟩ = some (.int .i64 a.x) ∧ wx.cell? ⟨w.heap.size + 1, 2, none⟩ = some (.int .i64 a.y) ∧ wx.cell? ⟨w.heap.size + 1, 3, none⟩ = some (.int .i64 a.pw) ∧ wx.cell? ⟨w.heap.size + 1, 4, none⟩ = some (.int .i64 a.h) ∧ wx.cell? ⟨w.heap.size + 1, 5, none⟩ = some (.slice A a.pat.length c) ∧ wx.cell? ⟨w.heap.size + 1, 6, none⟩ = some (.int .i64 a.band) ∧ wx.cell? ⟨w.heap.size + 1, 7, none⟩ = some (.int .i64 a.ch) := fun wx hbx => by
  obtain ⟨t0, t1, t2, t3⟩ := (x0.below hbx).c4
  obtain ⟨a0, a1, a2, a3, a4, a5, a6, a7⟩ := (x1.below hbx).c8
  exact ⟨t0, t1, t2, t3, a0, a1, a2, a3, a4, a5, a6, a7⟩
 have h0 := hel _ (Below.refl _ _)
 have h1 := hel _ (Below.refl V.heap.size V).drew
 have hc : Below V.heap.size V V.drew := (Below.refl _ _).drew
 generalize M.total P (M.area W H G a) = r at *
 generalize M.area W H G a = ll at *
 go_enter Tryz.func70, Tryz.ntmps70
 go_wp2_with fail
 rw [HW.out]
 go_region_held3 (fun w' => w'.cell? ⟨w.heap.size, 0, none⟩ = some (.int .i64 W) ∧ w'.cell? ⟨w.heap.size, 1, none⟩ = some (.int .i64 H) ∧ w'.cell? ⟨w.heap.size, 2, none⟩ = some (.slice GA G.length gc) ∧ w'.cell? ⟨w.heap.size, 3, none⟩ = some (.slice PA P.length pc) ∧ w'.cell? ⟨w.heap.size + 1, 0, none⟩ = some (.int .i64 a.id) ∧ w'.cell? ⟨w.heap.size + 1, 1, none⟩ = some (.int .i64 a.x) ∧ w'.cell? ⟨w.heap.size + 1, 2, none⟩ = some (.int .i64 a.y) ∧ w'.cell? ⟨w.heap.size + 1, 3, none⟩ = some (.int .i64 a.pw) ∧ w'.cell? ⟨w.heap.size + 1, 4, none⟩ = some (.int .i64 a.h) ∧ w'.cell? ⟨w.heap.size + 1, 5, none⟩ = some (.slice A a.pat.length c) ∧ w'.cell? ⟨w.heap.size + 1, 6, none⟩ = some (.int .i64 a.band) ∧ w'.cell? ⟨w.heap.size + 1, 7, none⟩ = some (.int .i64 a.ch)) (first | with_reducible exact h0 | with_reducible exact h1 | with_reducible exact hel _ hc)
  (first
   | (go_at_call 105; (refine (kC.out _ hc).mono ?_; rintro e wa ⟨CA, cc, rfl, SC, hba⟩; replace hc := hc.trans (hba.mono hc.size); clear hba))
   | (go_at_call 103; (refine (kP.out _ CA cc hc SC).mono ?_; rintro e wb ⟨rfl, hbb⟩; replace hc := hc.trans (hbb.mono hc.size); clear hbb)))
 all_goals
  go_wp2_with fail
  go_ret
  exact ⟨rfl, after_ hB hc⟩
set_option maxHeartbeats 16000000 in
theorem rForb16_ok (W H : Int) (GA PA : Option Addr) (gc pc : Nat) (G P : List Int) (a b : St) (A B : Option Addr) (c d : Nat) (o : Int) (w : World) (hg : Sl 1 icell w w.heap.size GA G) (hp : Sl 1 icell w w.heap.size PA P) (hS : Sl 1 icell w w.heap.size A a.pat) (hT : Sl 1 icell w w.heap.size B b.pat) (hoa : M.okS W H G P a = true) (hob : M.okS W H G P b = true) (ho : -1 ≤ o ∧ o ≤ 1) :
  Calls Tryz.prog 23 #[tv W H GA PA G.length gc P.length pc, stv a A c, stv b B d, .int .i64 o] w fun e w' => e = .returned (.bool (M.forb W H G P a b o)) ∧ Below w.heap.size w w' := by
 obtain ⟨V, HW, x0, x1, x2, hB, -⟩ := boxes3 w #[.int .i64 W, .int .i64 H, .slice GA G.length gc, .slice PA P.length pc] 24 (stc a A c) 40 (stc b B d) 40
 obtain ⟨-, htv, -, -⟩ := M.okS_iff.1 hoa
 obtain ⟨r1, r2, r3, r4, r5, r6⟩ := M.tvalid_iff.1 htv
 have hwh := M.wh_le r1 r2
 have bl := fun (x y : St) (o : Int) => M.totl_bd (l := M.lost W H G x (M.ratio o) [y]) r6 (Nat.le_trans M.lost_len (by omega))
 have ba := fun (x : St) => M.totl_bd (l := M.area W H G x) r6 (Nat.le_trans M.area_len (by omega))
 have b1 := bl a b o; have b2 := bl b a (-o); have b3 := ba a; have b4 := ba b
 have k1 : Hid (∀ u : Kept V.heap.size V, Calls Tryz.prog 69 #[tv W H GA PA G.length gc P.length pc, stv a A c, stv b B d, .int .i64 o] u.val fun e w' => e = .returned (.int .i64 (M.total P (M.lost W H G a (M.ratio o) [b]))) ∧ Below u.val.heap.size u.val w') := Lib.hid (fun u => by
  have hb := after_ hB u.h
  exact loses16_ok W H GA PA gc pc G P a b A B c d o u.val ((hg.below hb).more hb.size) ((hp.below hb).more hb.size) ((hS.below hb).more hb.size) ((hT.below hb).more hb.size) hoa hob)
 have k2 : Hid (∀ u : Kept V.heap.size V, Calls Tryz.prog 69 #[tv W H GA PA G.length gc P.length pc, stv b B d, stv a A c, .int .i64 (-o)] u.val fun e w' => e = .returned (.int .i64 (M.total P (M.lost W H G b (M.ratio (-o)) [a]))) ∧ Below u.val.heap.size u.val w') := Lib.hid (fun u => by
  have hb := after_ hB u.h
  exact loses16_ok W H GA PA gc pc G P b a B A d c (-o) u.val ((hg.below hb).more hb.size) ((hp.below hb).more hb.size) ((hT.below hb).more hb.size) ((hS.below hb).more hb.size) hob hoa)
 have k3 : Hid (∀ u : Kept V.heap.size V, Calls Tryz.prog 70 #[tv W H GA PA G.length gc P.length pc, stv a A c] u.val fun e w' => e = .returned (.int .i64 (M.total P (M.area W H G a))) ∧ Below u.val.heap.size u.val w') := Lib.hid (fun u => by
  have hb := after_ hB u.h
  exact people16_ok W H GA PA gc pc G P a A c u.val ((hg.below hb).more hb.size) ((hp.below hb).more hb.size) ((hS.below hb).more hb.size) hoa)
 have k4 : Hid (∀ u : Kept V.heap.size V, Calls Tryz.prog 70 #[tv W H GA PA G.length gc P.length pc, stv b B d] u.val fun e w' => e = .returned (.int .i64 (M.total P (M.area W H G b))) ∧ Below u.val.heap.size u.val w') := Lib.hid (fun u => by
  have hb := after_ hB u.h
  exact people16_ok W H GA PA gc pc G P b B d u.val ((hg.below hb).more hb.size) ((hp.below hb).more hb.size) ((hT.below hb).more hb.size) hob)
 have kE : Hid (∀ (l p : Int) (u : Kept V.heap.size V), 0 ≤ l ∧ l ≤ 100000000000 → 0 ≤ p ∧ p ≤ 100000000000 → Calls Tryz.prog 68 #[.int .i64 l, .int .i64 p, .int .i64 5] u.val fun e w' => e = .returned (.bool (decide (5 * p < 1000 * l))) ∧ u.val = w') := Lib.hid (fun l p u h1 h2 => rExceeds_ok l p 5 u.val (by omega) (by omega))
 obtain ⟨t0, t1, t2, t3⟩ := x0.c4
 obtain ⟨a0, a1, a2, a3, a4, a5, a6, a7⟩ := x1.c8
 obtain ⟨d0, d1, d2, d3, d4, d5, d6, d7⟩ := x2.c8
 have l0 := x0.lt; have l1 := x1.lt; have l2 := x2.lt
 clear bl ba r1 r2 r3 r4 r5 r6 hwh
 unfold M.forb M.exc5
 generalize M.total P (M.lost W H G a (M.ratio o) [b]) = z1 at *
 generalize M.total P (M.lost W H G b (M.ratio (-o)) [a]) = z2 at *
 generalize M.total P (M.area W H G a) = z3 at *
 generalize M.total P (M.area W H G b) = z4 at *
 have e1 := fun u => kE.out z1 z3 u b1 b3
 have e2 := fun u => kE.out z2 z4 u b2 b4
 generalize decide (5 * z3 < 1000 * z1) = f1 at *
 generalize decide (5 * z4 < 1000 * z2) = f2 at *
 have E1 := Lib.hid e1
 have E2 := Lib.hid e2
 clear kE e1 e2
 cases f1 <;> cases f2 <;>
  (go_enter Tryz.func23, Tryz.ntmps23
   go_wp2_with fail
   rw [HW.out]
   refine wp_region_kept V.heap.size V (by kernel_rfl) (by kernel_rfl) (Below.refl _ _) ?_
   repeat (go_big_quiet_step (first | (go_at_call 69; (first | with_reducible exact Kept.calls (Nat.le_refl _) (k1.out _) | with_reducible exact Kept.calls (Nat.le_refl _) (k2.out _))) | (go_at_call 70; (first | with_reducible exact Kept.calls (Nat.le_refl _) (k3.out _) | with_reducible exact Kept.calls (Nat.le_refl _) (k4.out _))) | (go_at_call 68; (first | with_reducible exact Kept.same (E1.out _) | with_reducible exact Kept.same (E2.out _)))))
   refine wpQuiet_nil ?_
   rintro w5 ⟨⟨_, hb5⟩, rfl⟩
   go_wp2_with fail
   go_ret
   exact ⟨rfl, after_ hB hb5⟩)
end Go.Proofs.YtciolgmljpamlaaGreatDoor
end
