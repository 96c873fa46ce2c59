/- Layer 11: Total. -/
import Derived.Test.YtohkbblfcjmmnaaGreatDoorObs
namespace Go.Proofs.YtohkbblfcjmmnaaGreatDoor
open Go Go.RowKit
set_option maxRecDepth 100000

def M.tot (W : Int) (G : List Int) (ax ay f bx by' t : Int) : Int := (M.free (M.sq ax ay bx by').toNat : Nat) + 12 * min ((M.obst W G ax ay f bx by' t).length : Int) 5
theorem take_snoc {α : Type} {xs : List α} {k : Nat} (h : k < xs.length) : xs.take (k + 1) = xs.take k ++ [xs[k]] := by
  rw [List.take_succ_eq_append_getElem h]

theorem M.free_eq {n k : Nat} (h0 : n ≠ 0) (h1 : 10 ^ k ≤ n ^ 20) (h2 : n ^ 20 < 10 ^ (k + 1)) : M.free n = k := by
  unfold M.free
  rw [if_neg h0]
  have a := M.nd_le.2 h2
  have b : ¬ M.nd (n ^ 20) ≤ k := fun h => by have := M.nd_le.1 h; omega
  omega
theorem M.free_bd {n : Nat} (h : n ≤ 7938) : M.free n ≤ 512 := by
  unfold M.free
  split
  · omega
  · have := M.nd_512 h; omega
theorem M.c63_of {W H x y : Int} (hW : 1 ≤ W ∧ W ≤ 64) (hH : 1 ≤ H ∧ H ≤ 64) (h : M.inside W H x y = true) : M.c63 x ∧ M.c63 y := by
  obtain ⟨a, b⟩ := M.inside_iff.1 h
  unfold M.c63
  omega

set_option maxHeartbeats 4000000 in
theorem total_no (W H : Int) (GA PA : Option Addr) (gc pc : Nat) (G P : List Int) (ax ay f bx by' t : Int) (w : World) (hg : Sl 1 icell w w.heap.size GA G) (hp : Sl 1 icell w w.heap.size PA P) (hgl : G.length ≤ 9223372036854775806) (hpl : P.length ≤ 9223372036854775806)
    (hno : M.okObs W H G P ax ay f bx by' t = false) : Calls Tryz.prog 63 #[tv W H GA PA G.length gc P.length pc, cv ax ay, .int .i64 f, cv bx by', .int .i64 t] w fun e w' => e = .returned (.tuple #[.int .i64 0, .int .i64 2]) ∧ Below w.heap.size w w' := by
  obtain ⟨V, HW, x0, x1, x2, hB, -⟩ := boxes3 w #[.int .i64 W, .int .i64 H, .slice GA G.length gc, .slice PA P.length pc] 24 #[.int .i64 ax, .int .i64 ay] 60 #[.int .i64 bx, .int .i64 by'] 60
  have hg1 := (hg.below hB).more hB.size
  have hp1 := (hp.below hB).more hB.size
  have HN := Lib.hid hno
  clear hno
  go_enter Tryz.func63, Tryz.ntmps63
  go_wp2_with fail
  rw [HW.out]
  refine (obs_no W H GA PA gc pc G P ax ay f bx by' t V hg1 hp1 hgl hpl HN.out).mono ?_
  rintro e w1 ⟨OA, oc, rfl, _, hb1⟩
  go_wp2_with fail
  go_ret2
  exact ⟨rfl, after_ hB hb1⟩

set_option maxHeartbeats 4000000 in
theorem total_ok (W H : Int) (GA PA : Option Addr) (gc pc : Nat) (G P : List Int) (ax ay f bx by' t : Int) (w : World) (hg : Sl 1 icell w w.heap.size GA G) (hp : Sl 1 icell w w.heap.size PA P)
    (hok : M.okObs W H G P ax ay f bx by' t = true) : Calls Tryz.prog 63 #[tv W H GA PA G.length gc P.length pc, cv ax ay, .int .i64 f, cv bx by', .int .i64 t] w fun e w' => e = .returned (.tuple #[.int .i64 (M.tot W G ax ay f bx by' t), .int .i64 0]) ∧ Below w.heap.size w w' := by
  obtain ⟨V, HW, x0, x1, x2, hB, -⟩ := boxes3 w #[.int .i64 W, .int .i64 H, .slice GA G.length gc, .slice PA P.length pc] 24 #[.int .i64 ax, .int .i64 ay] 60 #[.int .i64 bx, .int .i64 by'] 60
  have hg1 := (hg.below hB).more hB.size
  have hp1 := (hp.below hB).more hB.size
  obtain ⟨-, -, hv, hia, hib⟩ := M.okObs_iff.1 hok
  obtain ⟨t1, t2, -⟩ := M.tvalid_iff.1 hv
  obtain ⟨a1, a2⟩ := M.c63_of t1 t2 hia
  obtain ⟨b1, b2⟩ := M.c63_of t1 t2 hib
  obtain ⟨s1, s2⟩ := M.sq_bd a1 a2 b1 b2
  have HOK := Lib.hid hok
  clear hok hv hia hib
  obtain ⟨S, hS⟩ : ∃ n : Nat, M.sq ax ay bx by' = (n : Int) := ⟨_, (Int.toNat_of_nonneg s1).symm⟩
  have HS := Lib.hid hS
  have hS2 : S ≤ 7938 := by omega
  have HT : Hid (M.tot W G ax ay f bx by' t = (M.free S : Nat) + 12 * min ((M.obst W G ax ay f bx by' t).length : Int) 5) := Lib.hid (by unfold M.tot; rw [hS, Int.toNat_natCast])
  have hfb := M.free_bd hS2
  have hol : (M.obst W G ax ay f bx by' t).length ≤ 62 := by
    have := M.span_bd a1 a2 b1 b2
    have h2 := M.obstTo_length W G ax ay f bx by' t (M.lineN ax ay bx by')
    unfold M.obst
    unfold M.lineN at h2 ⊢
    omega
  clear hS s1 s2
  go_enter Tryz.func63, Tryz.ntmps63
  go_wp2_with fail
  rw [HW.out]
  refine (obs_ok W H GA PA gc pc G P ax ay f bx by' t V hg1 hp1 HOK.out).mono ?_
  rintro e w1 ⟨OA, oc, rfl, -, hb1⟩
  have B1 := after_ hB hb1
  obtain ⟨c0, c1⟩ := (x1.below hb1).c2
  obtain ⟨d0, d1⟩ := (x2.below hb1).c2
  generalize M.obst W G ax ay f bx by' t = O at *
  go_wp2_with fail
  refine (square_ok ax ay bx by' w1 a1 a2 b1 b2).mono ?_
  rintro e w2 ⟨rfl, hb2⟩
  have B2 := after_ B1 hb2
  rw [HS.out]
  go_wp2_with fail
  refine (free_ok S w2 hS2).mono ?_
  rintro e w3 ⟨rfl, hb3⟩
  have B3 := after_ B2 hb3
  generalize M.free S = F at *
  generalize O.length = n at *
  go_wp2_with fail
  go_ret2
  exact ⟨ret_int2 (by rw [HT.out]) rfl, B3⟩
end Go.Proofs.YtohkbblfcjmmnaaGreatDoor
