/- A bundle of texts: Kn08. -/
import Derived.Test.YtjoomgojnpcbeaaDoorK19
import Derived.Test.YtjoomgojnpcbeaaDoorK12
import Derived.Test.YtjoomgojnpcbeaaDoorK24
import Derived.Test.YtjoomgojnpcbeaaDoorK15
import Derived.Test.YtjoomgojnpcbeaaDoorK25
import Derived.Test.YtjoomgojnpcbeaaDoorK26
section
namespace Go.Proofs.YtjoomgojnpcbeaaDoor
open Go Go.RowKit Gh
set_option maxRecDepth 100000
structure K08 (w0 W : World) (g bg : Nat) : Prop where
  bel : Below w0.heap.size w0 W
  go : GO W w0.heap.size g bg 6 6 Ge.kR 5
  tab0 : Tab64 w0
section
variable {w0 w w' : World} {g bg : Nat}
theorem K08.tab (h : K08 w0 w g bg) : Tab64 w := h.tab0.kept h.bel
theorem K08.next (h : K08 w0 w g bg) (hb : Below w.heap.size w w') : K08 w0 w' g bg := ⟨after_ h.bel hb, h.go.next hb, h.tab0⟩
theorem LO.sl_ {W : World} {base : Nat} {v : Value} {ls : List SLc} (h : LO W base v ls) : ∃ A c, v = .slice A ls.length c ∧ LL W A ls := by
  obtain ⟨A, c, rfl, -⟩ := own_slice (by decide) h.outer
  exact ⟨A, c, rfl, h.ll⟩
theorem kBlocks (h : K08 w0 w g bg) : Calls Tryd.prog 17 #[gp bg] w fun e w' => (∃ A c ls CA cc, e = .returned (.tuple #[.slice A ls.length c, .slice CA 2 cc]) ∧ LL w' A ls ∧ ls.map (·.xs) = [[0, 1, 2], [2, 3], [3, 4]] ∧ Sl 1 icell w' w'.heap.size CA [2, 3]) ∧ Below w.heap.size w w' := by
  refine (ghBlocks_ok _ Ge.kR w h.go.gg.v (by decide) Ge.k_er0.fit h.tab).mono ?_
  rintro e w' ⟨v, ls, CA, cc, rfl, hlo, hls, hS, hb⟩
  obtain ⟨A, c, rfl, hll⟩ := hlo.sl_
  rw [Ge.k_blks] at hls
  rw [Ge.k_cuts] at hS ⊢
  exact ⟨⟨A, c, ls, CA, cc, rfl, hll, hls, hS⟩, hb⟩
theorem kDegen (h : K08 w0 w g bg) : Calls Tryd.prog 20 #[gp bg] w fun e w' => (∃ A c, e = .returned (.tuple #[.slice A 6 c, .int .i64 2]) ∧ Sl 1 icell w' w'.heap.size A [5, 4, 3, 0, 1, 2]) ∧ Below w.heap.size w w' := by
  refine (ghDegeneracy_ok _ Ge.kR w h.go.gg.v (by decide) Ge.k_er0.fit Ge.k_er0.sy h.tab).mono ?_
  rintro e w' ⟨A, c, rfl, hS, hb⟩
  have h1 := Ge.k_rmv
  rw [show Ge.kR.length = 6 from rfl] at hS ⊢
  rw [h1.1] at hS
  rw [h1.2]
  exact ⟨⟨A, c, rfl, hS⟩, hb⟩
theorem kCol (h : K08 w0 w g bg) (OA : Option Addr) (hO : Sl 1 icell w w.heap.size OA [0, 1, 2, 3, 4, 5]) : Calls Tryd.prog 24 #[gp bg, .slice OA 6 6] w fun e w' => (∃ A c, e = .returned (.tuple #[.slice A 6 c, .int .i64 0]) ∧ Sl 1 icell w' w'.heap.size A [0, 1, 2, 0, 1, 0]) ∧ Below w.heap.size w w' := by
  refine (ghColour_ok bg _ 6 Ge.kR 5 OA 6 [0, 1, 2, 3, 4, 5] w h.tab h.go.gg (by decide) Ge.k_er0.fit hO (by decide)).mono ?_
  rintro e w' ⟨⟨-, A, c, O, hO, rfl, hS⟩ | ⟨hn, -⟩, hb⟩
  · have e2 : O = [0, 1, 2, 3, 4, 5] := by
      have h2 := congrArg (fun l => l.map Int.toNat) hO
      simp only [bsl, List.map_map] at h2
      rw [show (Int.toNat ∘ fun (x : Nat) => (x : Int)) = id from funext fun x => Int.toNat_natCast x, List.map_id] at h2
      exact h2.symm
    subst e2
    have hS2 : Sl 1 icell w' w'.heap.size A (nfl 6 (colF Ge.kR [0, 1, 2, 3, 4, 5]).2) := hS
    rw [Ge.k_colF] at hS2
    exact ⟨⟨A, c, rfl, hS2⟩, hb⟩
  · exact absurd ⟨rfl, Ge.k_ok⟩ hn
theorem kCol2 (h : K08 w0 w g bg) (OA : Option Addr) (hO : Sl 1 icell w w.heap.size OA [0, 1]) : Calls Tryd.prog 24 #[gp bg, .slice OA 2 2] w fun e w' => e = .returned (.tuple #[.slice none 0 0, .int .i64 2]) ∧ Below w.heap.size w w' := by
  refine (ghColour_ok bg _ 6 Ge.kR 5 OA 2 [0, 1] w h.tab h.go.gg (by decide) Ge.k_er0.fit hO (by decide)).mono ?_
  rintro e w' ⟨⟨hn, -⟩ | ⟨-, rfl⟩, hb⟩
  · exact absurd hn.1 (by decide)
  · exact ⟨rfl, hb⟩
theorem kComps (h : K08 w0 w g bg) : Calls Tryd.prog 14 #[gp bg] w fun e w' => (∃ A c ls, e = .returned (.slice A ls.length c) ∧ LL w' A ls ∧ ls.map (·.xs) = [[0, 1, 2, 3, 4], [5]]) ∧ Below w.heap.size w w' := by
  refine (ghComponents_ok _ Ge.kR w h.go.gg.v Ge.k_er0.ok Ge.k_er0.sy h.tab).mono ?_
  rintro e w' ⟨v, ls, rfl, hlo, hls, hb⟩
  obtain ⟨A, c, rfl, hll⟩ := hlo.sl_
  rw [Ge.k_cmps] at hls
  exact ⟨⟨A, c, ls, rfl, hll, hls⟩, hb⟩
theorem kClique (h : K08 w0 w g bg) : Calls Tryd.prog 22 #[gp bg] w fun e w' => (∃ A c, e = .returned (.slice A 3 c) ∧ Sl 1 icell w' w'.heap.size A [0, 1, 2]) ∧ Below w.heap.size w w' := by
  refine (ghClique_ok _ Ge.kR w h.go.gg.v (by decide) Ge.k_er0.fit Ge.k_er0.sy h.tab).mono ?_
  rintro e w' ⟨A, c, rfl, hS, hb⟩
  rw [Ge.k_clq] at hS ⊢
  exact ⟨⟨A, c, rfl, hS⟩, hb⟩
theorem kBusy (h : K08 w0 w g bg) : Calls Tryd.prog 31 #[gp bg, .int .i64 1, .int .i64 0] w fun e w' => e = .returned (.int .i64 11) ∧ Below w.heap.size w w' :=
  ghAdd_busy _ g bg 6 6 1 0 Ge.kR 5 w h.go (by decide) (by decide) (by decide) (by decide) (by decide)
theorem kArg1 (h : K08 w0 w g bg) : Calls Tryd.prog 31 #[gp bg, .int .i64 1, .int .i64 1] w fun e w' => e = .returned (.int .i64 2) ∧ w = w' := ghAdd_arg bg _ 6 Ge.kR 5 1 1 w h.go.gg (by decide)
theorem kArg2 (h : K08 w0 w g bg) : Calls Tryd.prog 31 #[gp bg, .int .i64 0, .int .i64 6] w fun e w' => e = .returned (.int .i64 2) ∧ w = w' := ghAdd_arg bg _ 6 Ge.kR 5 0 6 w h.go.gg (by decide)
theorem kDeg (h : K08 w0 w g bg) : Calls Tryd.prog 36 #[gp bg, .int .i64 2] w fun e w' => e = .returned (.int .i64 3) ∧ Below w.heap.size w w' := by
  refine (ghDegree_ok bg _ 6 Ge.kR 5 2 w h.go.gg (by decide)).mono ?_
  rintro e w' ⟨rfl, hb⟩
  rw [Ge.k_deg]
  exact ⟨rfl, hb⟩
theorem kHas (h : K08 w0 w g bg) : Calls Tryd.prog 28 #[gp bg, .int .i64 9, .int .i64 0] w fun e w' => e = .returned (.bool false) ∧ Below w.heap.size w w' := by
  refine (ghHasB_ok bg _ 6 Ge.kR 5 9 0 w h.go.gg Ge.k_er0.ok).mono ?_
  rintro e w' ⟨rfl, hb⟩
  rw [Ge.k_has]
  exact ⟨rfl, hb⟩
theorem kEq {A B : Option Addr} {ac bc n : Nat} {a : List Int} (w : World) (hn : n = a.length) (hA : Sl 1 icell w w.heap.size A a) (hB : Sl 1 icell w w.heap.size B a) (hl : a.length ≤ 1000000) : Calls Tryd.prog 19 #[.slice A n ac, .slice B n bc] w fun e w' => e = .returned (.bool true) ∧ Below w.heap.size w w' := by
  subst hn
  have h := lEqual_any A B ac bc a a w hA hB hl
  rw [decide_eq_true rfl] at h
  exact h
theorem kAl {A B : Option Addr} {ac bc n : Nat} {us vs : List SLc} (w : World) (hn : n = vs.length) (hA : LL w A us) (hB : LL w B vs) (hl : vs.length ≤ 1000) (hi : ∀ s ∈ vs, s.xs.length ≤ 1000) (he : us.map (·.xs) = vs.map (·.xs)) : Calls Tryd.prog 13 #[.slice A us.length ac, .slice B n bc] w fun e w' => e = .returned (.bool true) ∧ Below w.heap.size w w' := by
  subst hn
  have h1 : us.length = vs.length := by have := congrArg List.length he; simpa using this
  have h := lAlike_any A B ac bc us vs w hA hB (by omega) (fun s hs => by
    have h2 : s.xs ∈ us.map (·.xs) := List.mem_map.2 ⟨s, hs, rfl⟩
    rw [he] at h2
    obtain ⟨t, ht, e⟩ := List.mem_map.1 h2
    rw [← e]
    have := hi t ht
    omega)
  rw [decide_eq_true he] at h
  exact h
end
set_option maxHeartbeats 64000000 in
theorem known08_any (w : World) (ht : Tab64 w) : Calls Tryd.prog 11 #[] w fun e w' => e = .returned (.bool true) ∧ Below w.heap.size w w' := by
  obtain ⟨V, HW, x1, hB, -⟩ := boxes1 w #[.int .i64 0, .int .i64 1, .int .i64 1, .int .i64 2, .int .i64 2, .int .i64 0, .int .i64 2, .int .i64 3, .int .i64 3, .int .i64 4] 51
  have hV := HW.out
  have kB := lBuild_ok 6 (some ⟨w.heap.size, 0, none⟩) 5 Ge.kl V (Sl.of_box x1 rfl) (by decide) (by decide)
  clear x1
  go_enter Tryd.func11, Tryd.ntmps11
  go_wp2_with fail
  clear hV
  refine kB.mono ?_
  rintro e w1 ⟨g, bg, R, EA, ec, rfl, ge, hb1⟩
  obtain ⟨-, rfl⟩ := Ge.k_er ge.er
  have kw : K08 w w1 g bg := ⟨after_ hB hb1, by have h := ge.go; rw [Ge.k_bld] at h; exact ⟨h.box, own_base h.own hB.size, h.len, h.far⟩, ht⟩
  clear ge hB hb1 kB HW
  go_wp2_with fail
  refine (kBlocks kw).mono ?_
  rintro e w2 ⟨⟨BA, bc, bls, CA, cc, rfl, hbl, hbe, hcl⟩, hbx⟩
  replace kw := kw.next hbx
  clear hbx
  go_wp2_with fail
  refine (kDegen kw).mono ?_
  rintro e w3 ⟨⟨OA, oc, rfl, hol⟩, hbx⟩
  replace kw := kw.next hbx
  replace hbl := hbl.next hbx
  replace hcl := (hcl.below hbx).more hbx.size
  clear hbx
  obtain ⟨V1, HV1, z1, hbx, -⟩ := boxes1 w3 #[.int .i64 0, .int .i64 1, .int .i64 2, .int .i64 3, .int .i64 4, .int .i64 5] 3
  have hV1 := HV1.out
  replace kw := kw.next hbx
  replace hbl := hbl.next hbx
  replace hcl := (hcl.below hbx).more hbx.size
  replace hol := (hol.below hbx).more hbx.size
  clear hbx
  have kC := kCol kw (some ⟨w3.heap.size, 0, none⟩) (Sl.of_box z1 rfl)
  go_wp2_with fail
  clear hV1 HV1 z1
  refine kC.mono ?_
  rintro e w4 ⟨⟨KA, kc, rfl, hkl⟩, hbx⟩
  replace kw := kw.next hbx
  replace hbl := hbl.next hbx
  replace hcl := (hcl.below hbx).more hbx.size
  replace hol := (hol.below hbx).more hbx.size
  clear hbx kC
  obtain ⟨V2, HV2, z1, hbx, -⟩ := boxes1 w4 #[.int .i64 0, .int .i64 1] 3
  have hV2 := HV2.out
  replace kw := kw.next hbx
  replace hbl := hbl.next hbx
  replace hcl := (hcl.below hbx).more hbx.size
  replace hol := (hol.below hbx).more hbx.size
  replace hkl := (hkl.below hbx).more hbx.size
  clear hbx
  have kC := kCol2 kw (some ⟨w4.heap.size, 0, none⟩) (Sl.of_box z1 rfl)
  go_wp2_with fail
  clear hV2 HV2 z1
  refine kC.mono ?_
  rintro e w5 ⟨rfl, hbx⟩
  replace kw := kw.next hbx
  replace hbl := hbl.next hbx
  replace hcl := (hcl.below hbx).more hbx.size
  replace hol := (hol.below hbx).more hbx.size
  replace hkl := (hkl.below hbx).more hbx.size
  clear hbx kC
  go_wp2_with fail
  refine (kComps kw).mono ?_
  rintro e w6 ⟨⟨PA, pc, pls, rfl, hco, hce⟩, hbx⟩
  replace kw := kw.next hbx
  replace hbl := hbl.next hbx
  replace hcl := (hcl.below hbx).more hbx.size
  replace hol := (hol.below hbx).more hbx.size
  replace hkl := (hkl.below hbx).more hbx.size
  clear hbx
  have hund : undef = Value.tuple #[] := rfl
  obtain ⟨V3, HV3, ya0, ya1, ya2, hBV3, hsV3⟩ := boxes3 w6 #[.int .i64 0, .int .i64 1, .int .i64 2, .int .i64 3, .int .i64 4] 3 #[.int .i64 5] 3 #[.slice (some ⟨w6.heap.size, 0, none⟩) 5 5, .slice (some ⟨w6.heap.size + 1, 0, none⟩) 1 1] 31
  have la : LL V3 (some ⟨w6.heap.size + 1 + 1, 0, none⟩) [⟨some ⟨w6.heap.size, 0, none⟩, 5, [0, 1, 2, 3, 4]⟩, ⟨some ⟨w6.heap.size + 1, 0, none⟩, 1, [5]⟩] := LL.lit ya2 rfl (fun s hs => by
    simp only [List.mem_cons, List.not_mem_nil, or_false] at hs
    rcases hs with rfl | rfl
    · exact Sl.of_box ya0 rfl
    · exact Sl.of_box ya1 rfl)
  have hV3 := HV3.out
  clear hsV3 ya0 ya1 ya2
  replace kw := kw.next hBV3
  replace hbl := hbl.next hBV3
  replace hcl := (hcl.below hBV3).more hBV3.size
  replace hol := (hol.below hBV3).more hBV3.size
  replace hkl := (hkl.below hBV3).more hBV3.size
  replace hco := hco.next hBV3
  have kS := kAl (A := PA) (ac := pc) (bc := 2) (n := 2) (vs := [⟨some ⟨w6.heap.size, 0, none⟩, 5, [0, 1, 2, 3, 4]⟩, ⟨some ⟨w6.heap.size + 1, 0, none⟩, 1, [5]⟩]) V3 rfl hco la (by simp) (by simp) (by rw [hce]; rfl)
  clear hBV3 la hco hce
  go_wp2_with fail
  clear hV3 HV3
  refine kS.mono ?_
  rintro e w7 ⟨rfl, hbx⟩
  clear kS
  replace kw := kw.next hbx
  replace hbl := hbl.next hbx
  replace hcl := (hcl.below hbx).more hbx.size
  replace hol := (hol.below hbx).more hbx.size
  replace hkl := (hkl.below hbx).more hbx.size
  clear hbx
  obtain ⟨V4, HV4, yb0, yb1, yb2, yb3, hBV4, hsV4⟩ := boxes4 w7 #[.int .i64 0, .int .i64 1, .int .i64 2] 3 #[.int .i64 2, .int .i64 3] 3 #[.int .i64 3, .int .i64 4] 3 #[.slice (some ⟨w7.heap.size, 0, none⟩) 3 3, .slice (some ⟨w7.heap.size + 1, 0, none⟩) 2 2, .slice (some ⟨w7.heap.size + 1 + 1, 0, none⟩) 2 2] 31
  have lb : LL V4 (some ⟨w7.heap.size + 1 + 1 + 1, 0, none⟩) [⟨some ⟨w7.heap.size, 0, none⟩, 3, [0, 1, 2]⟩, ⟨some ⟨w7.heap.size + 1, 0, none⟩, 2, [2, 3]⟩, ⟨some ⟨w7.heap.size + 1 + 1, 0, none⟩, 2, [3, 4]⟩] := LL.lit yb3 rfl (fun s hs => by
    simp only [List.mem_cons, List.not_mem_nil, or_false] at hs
    rcases hs with rfl | rfl | rfl
    · exact Sl.of_box yb0 rfl
    · exact Sl.of_box yb1 rfl
    · exact Sl.of_box yb2 rfl)
  have hV4 := HV4.out
  clear hsV4 yb0 yb1 yb2 yb3
  replace kw := kw.next hBV4
  replace hbl := hbl.next hBV4
  replace hcl := (hcl.below hBV4).more hBV4.size
  replace hol := (hol.below hBV4).more hBV4.size
  replace hkl := (hkl.below hBV4).more hBV4.size
  have kS := kAl (A := BA) (ac := bc) (bc := 3) (n := 3) (vs := [⟨some ⟨w7.heap.size, 0, none⟩, 3, [0, 1, 2]⟩, ⟨some ⟨w7.heap.size + 1, 0, none⟩, 2, [2, 3]⟩, ⟨some ⟨w7.heap.size + 1 + 1, 0, none⟩, 2, [3, 4]⟩]) V4 rfl hbl lb (by simp) (by simp) (by rw [hbe]; rfl)
  clear hBV4 lb hbl hbe
  go_wp2_with fail
  clear hV4 HV4
  refine kS.mono ?_
  rintro e w8 ⟨rfl, hbx⟩
  clear kS
  replace kw := kw.next hbx
  replace hcl := (hcl.below hbx).more hbx.size
  replace hol := (hol.below hbx).more hbx.size
  replace hkl := (hkl.below hbx).more hbx.size
  clear hbx
  obtain ⟨V5, HV5, z1, hbx, -⟩ := boxes1 w8 #[.int .i64 2, .int .i64 3] 3
  have hV5 := HV5.out
  replace kw := kw.next hbx
  replace hcl := (hcl.below hbx).more hbx.size
  replace hol := (hol.below hbx).more hbx.size
  replace hkl := (hkl.below hbx).more hbx.size
  clear hbx
  have kS := kEq (A := CA) (ac := cc) (bc := 2) (n := 2) V5 rfl hcl (Sl.of_box z1 rfl) (by decide)
  clear hcl
  go_wp2_with fail
  clear hV5 HV5 z1
  refine kS.mono ?_
  rintro e w9 ⟨rfl, hbx⟩
  clear kS
  replace kw := kw.next hbx
  replace hol := (hol.below hbx).more hbx.size
  replace hkl := (hkl.below hbx).more hbx.size
  clear hbx
  obtain ⟨V6, HV6, z1, hbx, -⟩ := boxes1 w9 #[.int .i64 5, .int .i64 4, .int .i64 3, .int .i64 0, .int .i64 1, .int .i64 2] 3
  have hV6 := HV6.out
  replace kw := kw.next hbx
  replace hol := (hol.below hbx).more hbx.size
  replace hkl := (hkl.below hbx).more hbx.size
  clear hbx
  have kS := kEq (A := OA) (ac := oc) (bc := 6) (n := 6) V6 rfl hol (Sl.of_box z1 rfl) (by decide)
  clear hol
  go_wp2_with fail
  clear hV6 HV6 z1
  refine kS.mono ?_
  rintro e t1 ⟨rfl, hbx⟩
  clear kS
  replace kw := kw.next hbx
  replace hkl := (hkl.below hbx).more hbx.size
  clear hbx
  go_wp2_with fail
  refine (kClique kw).mono ?_
  rintro e t2 ⟨⟨QA, qc, rfl, hq⟩, hbx⟩
  replace kw := kw.next hbx
  replace hkl := (hkl.below hbx).more hbx.size
  clear hbx
  obtain ⟨V7, HV7, z1, hbx, -⟩ := boxes1 t2 #[.int .i64 0, .int .i64 1, .int .i64 2] 3
  have hV7 := HV7.out
  replace kw := kw.next hbx
  replace hkl := (hkl.below hbx).more hbx.size
  replace hq := (hq.below hbx).more hbx.size
  clear hbx
  have kS := kEq (A := QA) (ac := qc) (bc := 3) (n := 3) V7 rfl hq (Sl.of_box z1 rfl) (by decide)
  clear hq
  go_wp2_with fail
  clear hV7 HV7 z1
  refine kS.mono ?_
  rintro e t3 ⟨rfl, hbx⟩
  clear kS
  replace kw := kw.next hbx
  replace hkl := (hkl.below hbx).more hbx.size
  clear hbx
  obtain ⟨V8, HV8, z1, hbx, -⟩ := boxes1 t3 #[.int .i64 0, .int .i64 1, .int .i64 2, .int .i64 0, .int .i64 1, .int .i64 0] 3
  have hV8 := HV8.out
  replace kw := kw.next hbx
  replace hkl := (hkl.below hbx).more hbx.size
  clear hbx
  have kS := kEq (A := KA) (ac := kc) (bc := 6) (n := 6) V8 rfl hkl (Sl.of_box z1 rfl) (by decide)
  clear hkl
  go_wp2_with fail
  clear hV8 HV8 z1
  refine kS.mono ?_
  rintro e t4 ⟨rfl, hbx⟩
  clear kS
  replace kw := kw.next hbx
  clear hbx
  go_wp2_with fail
  refine (kBusy kw).mono ?_
  rintro e t5 ⟨rfl, hbx⟩
  replace kw := kw.next hbx
  clear hbx
  go_wp2_with fail
  refine (kArg1 kw).mono ?_
  rintro e t6 ⟨rfl, rfl⟩
  go_wp2_with fail
  refine (kArg2 kw).mono ?_
  rintro e t7 ⟨rfl, rfl⟩
  go_wp2_with fail
  refine (kDeg kw).mono ?_
  rintro e t8 ⟨rfl, hbx⟩
  replace kw := kw.next hbx
  clear hbx
  go_wp2_with fail
  refine (kHas kw).mono ?_
  rintro e t9 ⟨rfl, hbx⟩
  replace kw := kw.next hbx
  clear hbx
  go_wp2_with fail
  go_ret
  exact ⟨rfl, kw.bel⟩
end Go.Proofs.YtjoomgojnpcbeaaDoor
end
