/- The law package of layer 15: loses; the program's Hit beyond the terrain. -/
import Derived.Test.YtohkbblfcjmmnaaGreatDoorRow
import Derived.Deep.RegionHeld3
namespace Go.Proofs.YtohkbblfcjmmnaaGreatDoor
open Go Go.RowKit
set_option maxRecDepth 100000

def M.mG : List Int := [0, 0, 0, 0, 0, 0, 0, 0, 0]
def M.mP : List Int := [10, 10, 10, 10, 10, 10, 10, 10, 10]
theorem M.rG9 : M.rG 9 = M.mG := rfl
theorem M.rP9 : M.rP 9 = M.mP := rfl
theorem held16 {w' : World} {b0 b1 : Nat} {a b : St} {A B : Option Addr} {c d : Nat} (h0 : Box w' b0 (stc a A c) 28) (h1 : Box w' b1 (stc b B d) 28) :
    w'.cell? ⟨b0, 0, none⟩ = some (.int .i64 a.id) ∧ w'.cell? ⟨b0, 1, none⟩ = some (.int .i64 a.x) ∧ w'.cell? ⟨b0, 2, none⟩ = some (.int .i64 a.y) ∧ w'.cell? ⟨b0, 3, none⟩ = some (.int .i64 a.pw) ∧ w'.cell? ⟨b0, 4, none⟩ = some (.int .i64 a.h) ∧ w'.cell? ⟨b0, 5, none⟩ = some (.slice A a.pat.length c) ∧ w'.cell? ⟨b0, 6, none⟩ = some (.int .i64 a.band) ∧ w'.cell? ⟨b0, 7, none⟩ = some (.int .i64 a.ch) ∧ w'.cell? ⟨b1, 0, none⟩ = some (.int .i64 b.id) ∧ w'.cell? ⟨b1, 1, none⟩ = some (.int .i64 b.x) ∧ w'.cell? ⟨b1, 2, none⟩ = some (.int .i64 b.y) ∧ w'.cell? ⟨b1, 3, none⟩ = some (.int .i64 b.pw) ∧ w'.cell? ⟨b1, 4, none⟩ = some (.int .i64 b.h) ∧ w'.cell? ⟨b1, 5, none⟩ = some (.slice B b.pat.length d) ∧ w'.cell? ⟨b1, 6, none⟩ = some (.int .i64 b.band) ∧ w'.cell? ⟨b1, 7, none⟩ = some (.int .i64 b.ch) := by
  obtain ⟨c0, c1, c2, c3, c4, c5, c6, c7⟩ := h0.c8
  obtain ⟨d0, d1, d2, d3, d4, d5, d6, d7⟩ := h1.c8
  exact ⟨c0, c1, c2, c3, c4, c5, c6, c7, d0, d1, d2, d3, d4, d5, d6, d7⟩

set_option maxHeartbeats 16000000 in
theorem loses_ok (a b : St) (A B : Option Addr) (c d : Nat) (o want : Int) (w : World) (ht : Tab w) (hS : Sl 1 icell w w.heap.size A a.pat) (hT : Sl 1 icell w w.heap.size B b.pat) (hpa : a.pat.length ≤ 1000) (hpb : b.pat.length ≤ 1000) (hr : M.peoR 9 1 M.mG M.mP a o [b] = (want, 0)) :
    Calls Tryz.prog 30 #[stv a A c, stv b B d, .int .i64 o, .int .i64 want] w fun e w' => e = .returned (.bool true) ∧ Below w.heap.size w w' := by
  obtain ⟨V, HW, x0, x1, hB, -⟩ := boxes2 w (stc a A c) 28 (stc b B d) 28
  have HR := Lib.hid hr
  clear hr
  have y0 : Box V.drew w.heap.size (stc a A c) 28 := x0
  have y1 : Box V.drew (w.heap.size + 1) (stc b B d) 28 := x1
  have K0 := held16 y0 y1
  have K1 := held16 x0 x1
  have Bd : Below w.heap.size w V.drew := hB.drew
  have kA : ∀ wa, Below V.drew.heap.size V.drew wa → _ := fun wa hba => held16 (y0.below hba) (y1.below hba)
  have q : (want == want) = true := by simp
  go_enter Tryz.func30, Tryz.ntmps30
  go_wp2_with fail
  rw [HW.out]
  go_region_held3 (fun w' => w'.cell? ⟨w.heap.size, 0, none⟩ = some (.int .i64 a.id) ∧ w'.cell? ⟨w.heap.size, 1, none⟩ = some (.int .i64 a.x) ∧ w'.cell? ⟨w.heap.size, 2, none⟩ = some (.int .i64 a.y) ∧ w'.cell? ⟨w.heap.size, 3, none⟩ = some (.int .i64 a.pw) ∧ w'.cell? ⟨w.heap.size, 4, none⟩ = some (.int .i64 a.h) ∧ w'.cell? ⟨w.heap.size, 5, none⟩ = some (.slice A a.pat.length c) ∧ w'.cell? ⟨w.heap.size, 6, none⟩ = some (.int .i64 a.band) ∧ w'.cell? ⟨w.heap.size, 7, none⟩ = some (.int .i64 a.ch) ∧ w'.cell? ⟨w.heap.size + 1, 0, none⟩ = some (.int .i64 b.id) ∧ w'.cell? ⟨w.heap.size + 1, 1, none⟩ = some (.int .i64 b.x) ∧ w'.cell? ⟨w.heap.size + 1, 2, none⟩ = some (.int .i64 b.y) ∧ w'.cell? ⟨w.heap.size + 1, 3, none⟩ = some (.int .i64 b.pw) ∧ w'.cell? ⟨w.heap.size + 1, 4, none⟩ = some (.int .i64 b.h) ∧ w'.cell? ⟨w.heap.size + 1, 5, none⟩ = some (.slice B b.pat.length d) ∧ w'.cell? ⟨w.heap.size + 1, 6, none⟩ = some (.int .i64 b.band) ∧ w'.cell? ⟨w.heap.size + 1, 7, none⟩ = some (.int .i64 b.ch)) (first | exact K0 | exact K1 | exact kA _ (by assumption))
    (first
      | (go_at_call 29; ((with_reducible refine (row_ok _).mono ?_); rintro e wa ⟨GA, gc, PA, pc, rfl, hG, hPq, hba⟩; have Ba := after_ Bd hba; have kk := ipeople_any 9 1 GA PA gc pc M.mG M.mP a b A B c d o wa (ht.kept Ba) hG hPq ((hS.below Ba).more Ba.size) ((hT.below Ba).more Ba.size) (by decide) (by decide) hpa hpb; rw [HR.out] at kk))
      | (go_at_call 16; (refine kk.mono ?_; rintro e wb ⟨rfl, hbb⟩; have hbB := after_ hba hbb)))
  all_goals
    go_wp2_with fail
    go_ret
    exact ⟨rfl, after_ Bd hbB⟩
end Go.Proofs.YtohkbblfcjmmnaaGreatDoor
