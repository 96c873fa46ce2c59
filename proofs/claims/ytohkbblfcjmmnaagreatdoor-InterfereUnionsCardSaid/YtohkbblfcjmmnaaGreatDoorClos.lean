/- Layer 14: the closures of cells. -/
import Derived.Test.YtohkbblfcjmmnaaGreatDoorServ
namespace Go.Proofs.YtohkbblfcjmmnaaGreatDoor
open Go Go.RowKit
set_option maxRecDepth 100000

/-- A cell that holds a value as it is. -/
def vcell (v : Value) (_ : Nat) : Value := v
/-- The closure that coveredBy makes. -/
def fv (bt bs : Nat) : Value := .func (.func 88) #[] #[.pointer (some ⟨bt, 0, none⟩), .pointer (some ⟨bs, 0, none⟩)]
/-- The closure 'refuses'. -/
def rv (bc : Nat) : Value := .func (.func 86) #[] #[.pointer (some ⟨bc, 0, none⟩)]

theorem hmfA : ∀ (fn : Fn) (first cap : Array Value) (w : World), (Instr.makeFunc fn first cap).run Tryz.prog w = .ok (.func fn first cap) w := fun _ _ _ _ => rfl

set_option maxHeartbeats 4000000 in
theorem refuses_ok {w : World} {bt bs : Nat} {W H : Int} {GA PA : Option Addr} {gc pc : Nat} {G P : List Int} {s : St} {A : Option Addr} {c : Nat} (h : Capt w bt bs W H GA PA gc pc G P s A c) (bc : Nat) (cx cy : Int) (hc : Box w bc #[.int .i64 cx, .int .i64 cy] 60) (hok : M.okF W H G P s cx cy = true) :
    Calls Tryz.prog 86 #[fv bt bs, .pointer (some ⟨bc, 0, none⟩)] w fun e w' => e = .returned (.bool (!M.cov W G s cx cy)) ∧ Below w.heap.size w w' := by
  obtain ⟨d0, d1⟩ := hc.c2
  have k := cov1_ok h cx cy hok
  generalize M.cov W G s cx cy = r at *
  unfold fv
  go_enter Tryz.func86, Tryz.ntmps86
  go_wp2_with fail
  refine k.mono ?_
  rintro e w1 ⟨rfl, hb1⟩
  go_wp2_with fail
  go_ret
  exact ⟨rfl, hb1⟩

set_option maxHeartbeats 4000000 in
theorem indexFunc_ok {w : World} {bt bs : Nat} {W H : Int} {GA PA : Option Addr} {gc pc : Nat} {G P : List Int} {s : St} {A : Option Addr} {c : Nat} (h : Capt w bt bs W H GA PA gc pc G P s A c) (bc : Nat) (cx cy : Int) (hc : Box w bc #[.int .i64 cx, .int .i64 cy] 60) (hok : M.okF W H G P s cx cy = true) (ca : Option Addr) (cc : Nat) (hca : Sl 1 vcell w w.heap.size ca [fv bt bs]) :
    Calls Tryz.prog 100 #[.slice ca 1 cc, rv bc] w fun e w' => e = .returned (.int .i64 (if M.cov W G s cx cy then -1 else 0)) ∧ Below w.heap.size w w' := by
  have k := refuses_ok h bc cx cy hc hok
  obtain ⟨ad, rfl, hab, hcell⟩ := hca 0 (by simp)
  have hc0 := hcell 0 (by decide)
  rw [show ad.add (0 * 1 + 0) = ad by simp [Addr.add]] at hc0
  replace hc0 : w.cell? ad = some (fv bt bs) := hc0
  clear hcell
  generalize M.cov W G s cx cy = r at *
  unfold rv
  go_enter Tryz.func100, Tryz.ntmps100
  go_wp2_with fail
  go_loopw [5, 8] (fun _ i wr => (i = .int .i64 0 ∧ wr = w) ∨ (i = .int .i64 1 ∧ r = true ∧ Below w.heap.size w wr)) (fun _ i _ => 1 - (intOf i).toNat)
  case atStart => exact .inl ⟨rfl, rfl⟩
  case round =>
    rcases hrel with ⟨rfl, rfl⟩ | ⟨rfl, rfl, hB⟩
    · go_wp2_with fail
      refine k.mono ?_
      rintro e w1 ⟨rfl, hb1⟩
      cases r
      · go_wp2_with fail
        go_ret
        exact ⟨rfl, hb1⟩
      · go_wp2_with fail
        go_roundw
        case rel => exact .inr ⟨rfl, trivial, hb1⟩
        case measure => simp [intOf]
    · go_wp2_with fail
      go_ret
      exact ⟨rfl, hB⟩

set_option maxHeartbeats 4000000 in
theorem containsFunc_ok {w : World} {bt bs : Nat} {W H : Int} {GA PA : Option Addr} {gc pc : Nat} {G P : List Int} {s : St} {A : Option Addr} {c : Nat} (h : Capt w bt bs W H GA PA gc pc G P s A c) (bc : Nat) (cx cy : Int) (hc : Box w bc #[.int .i64 cx, .int .i64 cy] 60) (hok : M.okF W H G P s cx cy = true) (ca : Option Addr) (cc : Nat) (hca : Sl 1 vcell w w.heap.size ca [fv bt bs]) :
    Calls Tryz.prog 87 #[.slice ca 1 cc, rv bc] w fun e w' => e = .returned (.bool (!M.cov W G s cx cy)) ∧ Below w.heap.size w w' := by
  have k := indexFunc_ok h bc cx cy hc hok ca cc hca
  generalize M.cov W G s cx cy = r at *
  cases r
  all_goals
    go_enter Tryz.func87, Tryz.ntmps87
    go_wp2_with fail
    refine k.mono ?_
    rintro e w1 ⟨rfl, hb1⟩
    go_wp2_with fail
    go_ret
    exact ⟨rfl, hb1⟩

set_option maxHeartbeats 4000000 in
theorem coveredBy_ok (W H : Int) (GA PA : Option Addr) (gc pc : Nat) (G P : List Int) (s : St) (A : Option Addr) (c : Nat) (w : World) :
    Calls Tryz.prog 72 #[tv W H GA PA G.length gc P.length pc, stv s A c] w fun e w' => e = .returned (fv w.heap.size (w.heap.size + 1)) ∧ Below w.heap.size w w' ∧ w'.heap.size = w.heap.size + 2 ∧ Box w' w.heap.size #[.int .i64 W, .int .i64 H, .slice GA G.length gc, .slice PA P.length pc] 24 ∧ Box w' (w.heap.size + 1) (stc s A c) 28 := by
  obtain ⟨V, HW, x0, x1, hB, hs⟩ := boxes2 w #[.int .i64 W, .int .i64 H, .slice GA G.length gc, .slice PA P.length pc] 24 (stc s A c) 28
  have HS := Lib.hid hs
  clear hs
  have hmf := hmfA
  go_enter Tryz.func72, Tryz.ntmps72
  go_wp2_with fail
  rw [HW.out]
  go_ret
  exact ⟨rfl, hB, HS.out, x0, x1⟩

/-- What the iterator has captured. -/
def cvv (b1 b2 : Nat) : Value := .func (.func 85) #[] #[.pointer (some ⟨b1, 0, none⟩), .pointer (some ⟨b2, 0, none⟩)]
set_option maxHeartbeats 4000000 in
theorem cells_ok (W H : Int) (GA PA : Option Addr) (gc pc gl pl : Nat) (ca : Option Addr) (cn cc : Nat) (w : World) :
    Calls Tryz.prog 71 #[tv W H GA PA gl gc pl pc, .slice ca cn cc] w fun e w' => e = .returned (cvv w.heap.size (w.heap.size + 1)) ∧ Below w.heap.size w w' ∧ w'.heap.size = w.heap.size + 2 ∧ Box w' w.heap.size #[.int .i64 W, .int .i64 H, .slice GA gl gc, .slice PA pl pc] 24 ∧ Box w' (w.heap.size + 1) #[.slice ca cn cc] 113 := by
  obtain ⟨V, HW, x0, x1, hB, hs⟩ := boxes2 w #[.int .i64 W, .int .i64 H, .slice GA gl gc, .slice PA pl pc] 24 #[.slice ca cn cc] 113
  have HS := Lib.hid hs
  clear hs
  have hmf := hmfA
  go_enter Tryz.func71, Tryz.ntmps71
  go_wp2_with fail
  rw [HW.out]
  go_ret
  exact ⟨rfl, hB, HS.out, x0, x1⟩
end Go.Proofs.YtohkbblfcjmmnaaGreatDoor
