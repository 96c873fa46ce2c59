/- Layer 14: Threshold, Covers and the closures of cells. -/
import Derived.Test.YtohkbblfcjmmnaaGreatDoorStS
namespace Go.Proofs.YtohkbblfcjmmnaaGreatDoor
open Go Go.RowKit
set_option maxRecDepth 100000

def M.thr (b : Int) : Int := if b = 1 then 56 else if b = 2 then 72 else 82
def M.cov (W : Int) (G : List Int) (s : St) (cx cy : Int) : Bool := decide (M.thr s.band ≤ M.field W G s cx cy)
theorem M.band_in {s : St} (h : M.svalid s = true) : s.band = 1 ∨ s.band = 2 ∨ s.band = 3 := by
  obtain ⟨-, -, -, -, h5, h6, -⟩ := M.svalid_iff.1 h
  rw [h6]
  unfold M.band
  repeat' split
  all_goals omega
theorem M.okF_valid {W H : Int} {G P : List Int} {s : St} {cx cy : Int} (h : M.okF W H G P s cx cy = true) : M.svalid s = true := by
  unfold M.okF at h; rw [Bool.and_eq_true] at h; exact h.1

theorem ret_bi {a b : Bool} {z : Int} (h : a = b) : Ending.returned (.tuple #[.bool a, .int .i64 z]) = .returned (.tuple #[.bool b, .int .i64 z]) := by rw [h]
theorem threshold_ok (b : Int) (w : World) (h : b = 1 ∨ b = 2 ∨ b = 3) : Calls Tryz.prog 52 #[.int .i64 b] w fun e w' => e = .returned (.tuple #[.int .i64 (M.thr b), .int .i64 0]) ∧ w = w' := by
  rcases h with rfl | rfl | rfl
  all_goals
    go_enter Tryz.func52, Tryz.ntmps52
    go_wp2_with fail
    go_ret2
    exact ⟨rfl, rfl⟩

set_option maxHeartbeats 4000000 in
theorem covers_ok (W H : Int) (GA PA : Option Addr) (gc pc : Nat) (G P : List Int) (s : St) (A : Option Addr) (c : Nat) (cx cy : Int) (w : World) (ht : Tab w) (hg : Sl 1 icell w w.heap.size GA G) (hp : Sl 1 icell w w.heap.size PA P) (hS : Sl 1 icell w w.heap.size A s.pat)
    (hok : M.okF W H G P s cx cy = true) : Calls Tryz.prog 33 #[tv W H GA PA G.length gc P.length pc, stv s A c, cv cx cy] w fun e w' => e = .returned (.tuple #[.bool (M.cov W G s cx cy), .int .i64 0]) ∧ Below w.heap.size w w' := by
  obtain ⟨V, HW, x0, x1, x2, hB, -⟩ := boxes3 w #[.int .i64 W, .int .i64 H, .slice GA G.length gc, .slice PA P.length pc] 24 (stc s A c) 28 #[.int .i64 cx, .int .i64 cy] 60
  have hbd := M.band_in (M.okF_valid hok)
  obtain ⟨r, HR⟩ : ∃ r, Hid (M.cov W G s cx cy = r) := ⟨_, Lib.hid rfl⟩
  have HQ : Hid (decide (M.thr s.band ≤ M.field W G s cx cy) = r) := Lib.hid HR.out
  rw [HR.out]
  go_enter Tryz.func33, Tryz.ntmps33
  go_wp2_with fail
  rw [HW.out]
  refine (field_ok W H GA PA gc pc G P s A c cx cy V (ht.kept hB) ((hg.below hB).more hB.size) ((hp.below hB).more hB.size) ((hS.below hB).more hB.size) hok).mono ?_
  rintro e w1 ⟨rfl, hb1⟩
  obtain ⟨b0, b1, b2, b3, b4, b5, b6, b7⟩ := (x1.below hb1).c8
  clear b0 b1 b2 b3 b4 b5 b7
  go_wp2_with fail
  refine (threshold_ok s.band w1 hbd).mono ?_
  rintro e w2 ⟨rfl, rfl⟩
  generalize M.field W G s cx cy = F at *
  generalize M.thr s.band = T at *
  go_wp2_with fail
  go_ret2
  exact ⟨ret_bi HQ.out, after_ hB hb1⟩

set_option maxHeartbeats 4000000 in
theorem covers_no (W H : Int) (GA PA : Option Addr) (gc pc : Nat) (G P : List Int) (s : St) (A : Option Addr) (c : Nat) (cx cy : Int) (w : World) (hg : Sl 1 icell w w.heap.size GA G) (hp : Sl 1 icell w w.heap.size PA P) (hS : Sl 1 icell w w.heap.size A s.pat)
    (h1 : G.length ≤ 9223372036854775806) (h2 : P.length ≤ 9223372036854775806) (h3 : s.pat.length ≤ 9223372036854775806)
    (hok : M.okF W H G P s cx cy = false) : Calls Tryz.prog 33 #[tv W H GA PA G.length gc P.length pc, stv s A c, cv cx cy] w fun e w' => e = .returned (.tuple #[.bool false, .int .i64 2]) ∧ Below w.heap.size w w' := by
  obtain ⟨V, HW, x0, x1, x2, hB, -⟩ := boxes3 w #[.int .i64 W, .int .i64 H, .slice GA G.length gc, .slice PA P.length pc] 24 (stc s A c) 28 #[.int .i64 cx, .int .i64 cy] 60
  go_enter Tryz.func33, Tryz.ntmps33
  go_wp2_with fail
  rw [HW.out]
  refine (field_no W H GA PA gc pc G P s A c cx cy V ((hg.below hB).more hB.size) ((hp.below hB).more hB.size) ((hS.below hB).more hB.size) h1 h2 h3 hok).mono ?_
  rintro e w1 ⟨rfl, hb1⟩
  go_wp2_with fail
  go_ret2
  exact ⟨rfl, after_ hB hb1⟩

/-- The station and the terrain that a closure has captured. -/
structure Capt (w : World) (bt bs : Nat) (W H : Int) (GA PA : Option Addr) (gc pc : Nat) (G P : List Int) (s : St) (A : Option Addr) (c : Nat) : Prop where
  bt : Box w bt #[.int .i64 W, .int .i64 H, .slice GA G.length gc, .slice PA P.length pc] 24
  bs : Box w bs (stc s A c) 28
  g : Sl 1 icell w w.heap.size GA G
  p : Sl 1 icell w w.heap.size PA P
  s1 : Sl 1 icell w w.heap.size A s.pat
  tab : Tab w
theorem Capt.below {w w' : World} {bt bs : Nat} {W H : Int} {GA PA : Option Addr} {gc pc : Nat} {G P : List Int} {s : St} {A : Option Addr} {c : Nat} (h : Capt w bt bs W H GA PA gc pc G P s A c) (hb : Below w.heap.size w w') : Capt w' bt bs W H GA PA gc pc G P s A c :=
  ⟨h.bt.below hb, h.bs.below hb, (h.g.below hb).more hb.size, (h.p.below hb).more hb.size, (h.s1.below hb).more hb.size, h.tab.kept hb⟩

set_option maxHeartbeats 4000000 in
theorem cov1_ok {w : World} {bt bs : Nat} {W H : Int} {GA PA : Option Addr} {gc pc : Nat} {G P : List Int} {s : St} {A : Option Addr} {c : Nat} (h : Capt w bt bs W H GA PA gc pc G P s A c) (cx cy : Int) (hok : M.okF W H G P s cx cy = true) :
    Calls Tryz.prog 88 #[cv cx cy, .pointer (some ⟨bt, 0, none⟩), .pointer (some ⟨bs, 0, none⟩)] w fun e w' => e = .returned (.bool (M.cov W G s cx cy)) ∧ Below w.heap.size w w' := by
  obtain ⟨V, HW, x0, hB, -⟩ := boxes1 w #[.int .i64 cx, .int .i64 cy] 60
  have h1 := h.below hB
  obtain ⟨r, HR⟩ : ∃ r, Hid (M.cov W G s cx cy = r) := ⟨_, Lib.hid rfl⟩
  rw [HR.out]
  obtain ⟨c0, c1, c2, c3⟩ := h1.bt.c4
  obtain ⟨b0, b1, b2, b3, b4, b5, b6, b7⟩ := h1.bs.c8
  obtain ⟨d0, d1⟩ := x0.c2
  have hV := HW.out
  go_enter Tryz.func88, Tryz.ntmps88
  go_wp2_with fail
  clear hV
  refine (covers_ok W H GA PA gc pc G P s A c cx cy V h1.tab h1.g h1.p h1.s1 hok).mono ?_
  rintro e w1 ⟨rfl, hb1⟩
  rw [HR.out]
  go_wp2_with fail
  go_ret
  exact ⟨rfl, after_ hB hb1⟩
end Go.Proofs.YtohkbblfcjmmnaaGreatDoor
