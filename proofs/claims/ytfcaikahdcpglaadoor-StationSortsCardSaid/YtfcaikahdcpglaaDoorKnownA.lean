import Derived.Test.YtfcaikahdcpglaaDoorLaw13
/- The law package of layer 13: known returns true. -/
namespace Go.Proofs.YtfcaikahdcpglaaDoor
open Go Go.RowKit
set_option maxRecDepth 100000

namespace M
abbrev kG : List Int := List.replicate 400 0
abbrev kS : St := mk13 4 0
abbrev kA : St := mk13 2 30
theorem k_free100 : free 100 = 40 := free_eq (by decide) (by decide +kernel) (by decide +kernel)
theorem k_tot0 : tot 20 kG 5 5 20 5 5 10 = 0 := by
  unfold tot
  rw [show (sq 5 5 5 5).toNat = 0 from by decide +kernel, show (obst 20 kG 5 5 20 5 5 10).length = 0 from by decide +kernel]
  decide
theorem k_tot1 : tot 20 kG 5 5 20 15 5 10 = 40 := by
  unfold tot
  rw [show (sq 5 5 15 5).toNat = 100 from by decide +kernel, show (obst 20 kG 5 5 20 15 5 10).length = 0 from by decide +kernel, k_free100]
  decide
theorem k_tot2 : tot 20 kG 5 5 20 5 15 10 = 40 := by
  unfold tot
  rw [show (sq 5 5 5 15).toNat = 100 from by decide +kernel, show (obst 20 kG 5 5 20 5 15 10).length = 0 from by decide +kernel, k_free100]
  decide
theorem k_f1 : field 20 kG kS 5 5 = 100 := by
  show 100 - aloss kS.pat (5 - 5) (5 - 5) - tot 20 kG 5 5 20 5 5 10 = 100
  rw [k_tot0, show aloss kS.pat (5 - 5) (5 - 5) = 0 from by decide +kernel]; decide
theorem k_f2 : field 20 kG kS 15 5 = 60 := by
  show 100 - aloss kS.pat (15 - 5) (5 - 5) - tot 20 kG 5 5 20 15 5 10 = 60
  rw [k_tot1, show aloss kS.pat (15 - 5) (5 - 5) = 0 from by decide +kernel]; decide
theorem k_f3 : field 20 kG kA 15 5 = 30 := by
  show 100 - aloss kA.pat (15 - 5) (5 - 5) - tot 20 kG 5 5 20 15 5 10 = 30
  rw [k_tot1, show aloss kA.pat (15 - 5) (5 - 5) = 30 from by decide +kernel]; decide
theorem k_f4 : field 20 kG kA 5 15 = 60 := by
  show 100 - aloss kA.pat (5 - 5) (15 - 5) - tot 20 kG 5 5 20 5 15 10 = 60
  rw [k_tot2, show aloss kA.pat (5 - 5) (15 - 5) = 0 from by decide +kernel]; decide
theorem k_f5 : field 20 kG kA 5 5 = 100 := by
  show 100 - aloss kA.pat (5 - 5) (5 - 5) - tot 20 kG 5 5 20 5 5 10 = 100
  rw [k_tot0, show aloss kA.pat (5 - 5) (5 - 5) = 0 from by decide +kernel]; decide
theorem k_o1 : okF 20 20 kG kG kS 5 5 = true := by decide +kernel
theorem k_o2 : okF 20 20 kG kG kS 15 5 = true := by decide +kernel
theorem k_o3 : okF 20 20 kG kG kA 15 5 = true := by decide +kernel
theorem k_o4 : okF 20 20 kG kG kA 5 15 = true := by decide +kernel
theorem k_o5 : okF 20 20 kG kG kA 5 5 = true := by decide +kernel
theorem k_s1 : strongR 20 20 kG kG [kS, kA] 5 5 = (2, 100, 0) := by
  unfold strongR
  rw [if_pos (by rw [show has 20 20 kG kG 5 5 = true from by decide +kernel, List.all_cons, List.all_cons, k_o1, k_o5]; rfl), if_neg (by simp)]
  have : strong 20 kG 5 5 [kS, kA] = (2, 100) := by
    show sstep 20 kG 5 5 (sstep 20 kG 5 5 (-1, 0) kS) kA = (2, 100)
    unfold sstep
    rw [k_f1, k_f5]
    decide
  rw [this]
theorem k_s2 : strongR 20 20 kG kG [kS, kA] 15 5 = (4, 60, 0) := by
  unfold strongR
  rw [if_pos (by rw [show has 20 20 kG kG 15 5 = true from by decide +kernel, List.all_cons, List.all_cons, k_o2, k_o3]; rfl), if_neg (by simp)]
  have : strong 20 kG 15 5 [kS, kA] = (4, 60) := by
    show sstep 20 kG 15 5 (sstep 20 kG 15 5 (-1, 0) kS) kA = (4, 60)
    unfold sstep
    rw [k_f2, k_f3]
    decide
  rw [this]
theorem k_s3 : strongR 20 20 kG kG [] 0 0 = (0, 0, 9) := by decide +kernel
theorem k_r1 : sortR [kS, kA] = ([kA, kS], 0) := by decide +kernel
theorem k_r2 : sortR [kS, kS] = ([], 11) := by decide +kernel
theorem k_n1 : find [kS, kA] 2 = (kA, 0) := by decide +kernel
theorem k_n2 : find [kS, kA] 3 = (zst, 9) := by decide +kernel
theorem k_n3 : find [kS, kA] 512 = (zst, 2) := by decide +kernel
end M
end Go.Proofs.YtfcaikahdcpglaaDoor

/- The law package of layer 13: the walk of known. -/
namespace Go.Proofs.YtfcaikahdcpglaaDoor
open Go Go.RowKit
set_option maxRecDepth 100000

/-- What known holds behind its first three variables. -/
structure KW (w : World) (bt bs ba : Nat) (GA PA : Option Addr) (gc pc : Nat) (A1 A2 : Option Addr) (c1 c2 : Nat) : Prop where
  t : Box w bt #[.int .i64 20, .int .i64 20, .slice GA 400 gc, .slice PA 400 pc] 24
  s : Box w bs (stc M.kS A1 c1) 28
  a : Box w ba (stc M.kA A2 c2) 28
  g : Sl 1 icell w w.heap.size GA M.kG
  p : Sl 1 icell w w.heap.size PA M.kG
  s1 : Sl 1 icell w w.heap.size A1 M.kS.pat
  a1 : Sl 1 icell w w.heap.size A2 M.kA.pat
  tab : Tab w
theorem KW.below {w w' : World} {bt bs ba : Nat} {GA PA : Option Addr} {gc pc : Nat} {A1 A2 : Option Addr} {c1 c2 : Nat} (h : KW w bt bs ba GA PA gc pc A1 A2 c1 c2) (hb : Below w.heap.size w w') : KW w' bt bs ba GA PA gc pc A1 A2 c1 c2 :=
  ⟨h.t.below hb, h.s.below hb, h.a.below hb, (h.g.below hb).more hb.size, (h.p.below hb).more hb.size, (h.s1.below hb).more hb.size, (h.a1.below hb).more hb.size, h.tab.kept hb⟩

theorem KW.pats {w : World} {bt bs ba : Nat} {GA PA : Option Addr} {gc pc : Nat} {A1 A2 : Option Addr} {c1 c2 : Nat} (h : KW w bt bs ba GA PA gc pc A1 A2 c1 c2) : Pats w [⟨M.kS, A1, c1⟩, ⟨M.kA, A2, c2⟩] := fun e he => by
  rcases List.mem_cons.1 he with rfl | he
  · exact h.s1
  · obtain rfl : e = ⟨M.kA, A2, c2⟩ := by simpa using he
    exact h.a1
theorem KW.pats2 {w : World} {bt bs ba : Nat} {GA PA : Option Addr} {gc pc : Nat} {A1 A2 : Option Addr} {c1 c2 : Nat} (h : KW w bt bs ba GA PA gc pc A1 A2 c1 c2) : Pats w [⟨M.kS, A1, c1⟩, ⟨M.kS, A1, c1⟩] := fun e he => by
  rcases List.mem_cons.1 he with rfl | he
  · exact h.s1
  · obtain rfl : e = ⟨M.kS, A1, c1⟩ := by simpa using he
    exact h.s1
theorem kpl (A1 A2 : Option Addr) (c1 c2 : Nat) (s1 s2 : St) (h1 : s1.pat.length ≤ 1000) (h2 : s2.pat.length ≤ 1000) : ∀ e ∈ ([⟨s1, A1, c1⟩, ⟨s2, A2, c2⟩] : List SE), e.s.pat.length ≤ 1000 := fun e he => by
  rcases List.mem_cons.1 he with rfl | he
  · exact h1
  · obtain rfl : e = ⟨s2, A2, c2⟩ := by simpa using he
    exact h2
theorem kfield {w : World} {bt bs ba : Nat} {GA PA : Option Addr} {gc pc : Nat} {A1 A2 : Option Addr} {c1 c2 : Nat} (h : KW w bt bs ba GA PA gc pc A1 A2 c1 c2) (s : St) (A : Option Addr) (c : Nat) (hS : Sl 1 icell w w.heap.size A s.pat) (cx cy want : Int) (hok : M.okF 20 20 M.kG M.kG s cx cy = true) (hw : M.field 20 M.kG s cx cy = want) :
    Calls Tryd.prog 31 #[tv 20 20 GA PA 400 gc 400 pc, stv s A c, .int .i64 cx, .int .i64 cy, .int .i64 want] w fun e w' => e = .returned (.bool true) ∧ Below w.heap.size w w' := by
  have := lawField_any 20 20 GA PA gc pc M.kG M.kG s A c cx cy want w h.tab h.g h.p hS hok hw
  rwa [List.length_replicate] at this
theorem ksort (LA : Option Addr) (lc : Nat) (A1 A2 : Option Addr) (c1 c2 : Nat) (w : World) (hL : Sl 8 secell w w.heap.size LA [⟨M.kS, A1, c1⟩, ⟨M.kA, A2, c2⟩]) (hP : Pats w [⟨M.kS, A1, c1⟩, ⟨M.kA, A2, c2⟩]) :
    Calls Tryd.prog 20 #[.slice LA 2 lc] w fun e w' => ∃ OA oc O1 oc1 O2 oc2, e = .returned (.tuple #[.slice OA 2 oc, .int .i64 0]) ∧ Sl 8 secell w' w'.heap.size OA [⟨M.kA, O1, oc1⟩, ⟨M.kS, O2, oc2⟩] ∧ Sl 1 icell w' w'.heap.size O1 M.kA.pat ∧ Sl 1 icell w' w'.heap.size O2 M.kS.pat ∧ Below w.heap.size w w' := by
  have h := sort_any LA lc [⟨M.kS, A1, c1⟩, ⟨M.kA, A2, c2⟩] w hL hP (by simp) (kpl _ _ _ _ _ _ (by decide) (by decide))
  refine Calls.mono h ?_
  rintro e w' ⟨OA, oc, os, rfl, hos, hO, hb⟩
  have hk : (M.sortR (([⟨M.kS, A1, c1⟩, ⟨M.kA, A2, c2⟩] : List SE).map (·.s))) = ([M.kA, M.kS], 0) := M.k_r1
  rw [hk] at hos
  have hlen : os.length = 2 := by have := congrArg List.length hos; simpa using this
  obtain ⟨e1, e2, rfl⟩ : ∃ e1 e2, os = [e1, e2] := by
    match os, hlen with
    | [a, b], _ => exact ⟨a, b, rfl⟩
  obtain ⟨s1, O1, oc1⟩ := e1
  obtain ⟨s2, O2, oc2⟩ := e2
  simp only [List.map_cons, List.map_nil, List.cons.injEq, and_true] at hos
  obtain ⟨q1, q2⟩ := hos
  subst q1 q2
  refine ⟨OA, oc, O1, oc1, O2, oc2, by rw [hk]; rfl, Sl.of_own (by decide) hO.own, Sl.of_own (by decide) (hO.pat ⟨M.kA, O1, oc1⟩ (by simp)), Sl.of_own (by decide) (hO.pat ⟨M.kS, O2, oc2⟩ (by simp)), hb⟩
theorem ksort2 (LA : Option Addr) (lc : Nat) (A1 : Option Addr) (c1 : Nat) (w : World) (hL : Sl 8 secell w w.heap.size LA [⟨M.kS, A1, c1⟩, ⟨M.kS, A1, c1⟩]) (hP : Pats w [⟨M.kS, A1, c1⟩, ⟨M.kS, A1, c1⟩]) :
    Calls Tryd.prog 20 #[.slice LA 2 lc] w fun e w' => ∃ OA oc, e = .returned (.tuple #[.slice OA 0 oc, .int .i64 11]) ∧ Below w.heap.size w w' := by
  have h := sort_any LA lc [⟨M.kS, A1, c1⟩, ⟨M.kS, A1, c1⟩] w hL hP (by simp) (kpl _ _ _ _ _ _ (by decide) (by decide))
  refine Calls.mono h ?_
  rintro e w' ⟨OA, oc, os, rfl, hos, hO, hb⟩
  have hk : (M.sortR (([⟨M.kS, A1, c1⟩, ⟨M.kS, A1, c1⟩] : List SE).map (·.s))) = ([], 11) := M.k_r2
  rw [hk] at hos
  have hlen : os.length = 0 := by have := congrArg List.length hos; simpa using this
  exact ⟨OA, oc, by rw [hk, hlen], hb⟩
theorem kfind (LA : Option Addr) (lc : Nat) (A1 A2 : Option Addr) (c1 c2 : Nat) (id : Int) (st : St) (er : Int) (w : World) (hL : Sl 8 secell w w.heap.size LA [⟨M.kS, A1, c1⟩, ⟨M.kA, A2, c2⟩]) (hP : Pats w [⟨M.kS, A1, c1⟩, ⟨M.kA, A2, c2⟩]) (hf : M.find [M.kS, M.kA] id = (st, er)) :
    Calls Tryd.prog 18 #[.slice LA 2 lc, .int .i64 id] w (RetStE w st er) := by
  have h := find_any LA lc [⟨M.kS, A1, c1⟩, ⟨M.kA, A2, c2⟩] id w hL hP (by simp) (kpl _ _ _ _ _ _ (by decide) (by decide))
  have hk : M.find (([⟨M.kS, A1, c1⟩, ⟨M.kA, A2, c2⟩] : List SE).map (·.s)) id = (st, er) := hf
  rw [hk] at h
  exact h
theorem keq (s : St) (A D : Option Addr) (c d : Nat) (w : World) (hA : Sl 1 icell w w.heap.size A s.pat) (hD : Sl 1 icell w w.heap.size D s.pat) (hl : s.pat.length ≤ 1000) : Calls Tryd.prog 19 #[stv s A c, stv s D d] w fun e w' => e = .returned (.bool true) ∧ Below w.heap.size w w' := by
  have h := rSEqual_any s s A D c d w hA hD (by omega)
  rwa [decide_eq_true rfl] at h
theorem kband (ch v : Int) (w : World) (h : M.band ch = v) : Calls Tryd.prog 26 #[.int .i64 ch] w fun e w' => e = .returned (.int .i64 v) ∧ w = w' := by
  rw [← h]; exact band_any ch w
theorem kstrong {w : World} {bt bs ba : Nat} {GA PA : Option Addr} {gc pc : Nat} {A1 A2 : Option Addr} {c1 c2 : Nat} (h : KW w bt bs ba GA PA gc pc A1 A2 c1 c2) (LA : Option Addr) (n lc : Nat) (es : List SE) (hn : es.length = n) (hL : Sl 8 secell w w.heap.size LA es) (hP : Pats w es) (hl : es.length ≤ 1000) (hpl : ∀ e ∈ es, e.s.pat.length ≤ 1000) (l : List St) (hm : es.map (·.s) = l) (cx cy a b er : Int) (hr : M.strongR 20 20 M.kG M.kG l cx cy = (a, b, er)) :
    Calls Tryd.prog 13 #[tv 20 20 GA PA 400 gc 400 pc, .slice LA n lc, cv cx cy] w fun e w' => e = .returned (.tuple #[.int .i64 a, .int .i64 b, .int .i64 er]) ∧ Below w.heap.size w w' := by
  subst hn
  have := strongest_any 20 20 GA PA gc pc M.kG M.kG LA lc es cx cy w h.tab h.g h.p hL hP (by rw [List.length_replicate]; decide) (by rw [List.length_replicate]; decide) (by omega) hpl
  rw [hm, hr, List.length_replicate] at this
  exact this

set_option maxHeartbeats 16000000 in
theorem known_any (w : World) (ht : Tab w) : Calls Tryd.prog 9 #[] w fun e w' => e = .returned (.bool true) ∧ Below w.heap.size w w' := by
  go_enter Tryd.func9, Tryd.ntmps9
  go_wp2_with fail
  refine (flat_ok 20 20 0 0 400 w (Lib.hid (by decide)) (by decide)).mono ?_
  rintro e w1 ⟨GA, gc, PA, pc, rfl, hg, hp, B1⟩
  rw [List.length_replicate]
  obtain ⟨V1, HV1, t1, hb1, -⟩ := boxes1 w1 #[.int .i64 20, .int .i64 20, .slice GA 400 gc, .slice PA 400 pc] 24
  have BV1 := after_ B1 hb1
  have hg1 := (hg.below hb1).more hb1.size
  have hp1 := (hp.below hb1).more hb1.size
  have h1 := HV1.out
  go_wp2_with fail
  clear h1
  refine (made_ok 4 0 V1).mono ?_
  rintro e w2 ⟨A1, c1, rfl, o2, hb2⟩
  have B2 := after_ BV1 hb2
  have S1 := Sl.of_own (by decide) o2
  have t2 := t1.below hb2
  have hg2 := (hg1.below hb2).more hb2.size
  have hp2 := (hp1.below hb2).more hb2.size
  go_wp2_with fail
  refine (made_ok 2 30 w2).mono ?_
  rintro e w3 ⟨A2, c2, rfl, o3, hb3⟩
  have B3 := after_ B2 hb3
  obtain ⟨V3, HV3, s4, a4, hb4, -⟩ := boxes2 w3 (stc M.kS A1 c1) 28 (stc M.kA A2 c2) 28
  have B4 := after_ B3 hb4
  have S2 := Sl.of_own (by decide) o3
  have kw : KW V3 w1.heap.size w3.heap.size (w3.heap.size + 1) GA PA gc pc A1 A2 c1 c2 :=
    ⟨(t2.below hb3).below hb4, s4, a4, (((hg2.below hb3).more hb3.size).below hb4).more hb4.size, (((hp2.below hb3).more hb3.size).below hb4).more hb4.size, (((S1.below hb3).more hb3.size).below hb4).more hb4.size, (S2.below hb4).more hb4.size, ht.kept B4⟩
  clear t1 t2 hg hp hg1 hp1 hg2 hp2 o2 o3 S1 S2 s4 a4 hb1 hb2 hb3 hb4 B1 B2 B3 BV1
  have h3 := HV3.out
  obtain ⟨x0, x1, x2, x3⟩ := kw.t.c4
  obtain ⟨y0, y1, y2, y3, y4, y5, y6, y7⟩ := kw.s.c8
  obtain ⟨z0, z1, z2, z3, z4, z5, z6, z7⟩ := kw.a.c8
  -- THE REST
  go_wp2_with fail
  clear h3
  refine (kfield kw M.kS A1 c1 kw.s1 5 5 100 M.k_o1 M.k_f1).mono ?_
  rintro e w5 ⟨rfl, hb5⟩
  have B5 := after_ B4 hb5
  replace kw := kw.below hb5
  clear x0 x1 x2 x3 y0 y1 y2 y3 y4 y5 y6 y7 z0 z1 z2 z3 z4 z5 z6 z7
  obtain ⟨x0, x1, x2, x3⟩ := kw.t.c4
  obtain ⟨y0, y1, y2, y3, y4, y5, y6, y7⟩ := kw.s.c8
  obtain ⟨z0, z1, z2, z3, z4, z5, z6, z7⟩ := kw.a.c8
  go_wp2_with fail
  refine (kfield kw M.kS A1 c1 kw.s1 15 5 60 M.k_o2 M.k_f2).mono ?_
  rintro e w6 ⟨rfl, hb6⟩
  have B6 := after_ B5 hb6
  replace kw := kw.below hb6
  clear x0 x1 x2 x3 y0 y1 y2 y3 y4 y5 y6 y7 z0 z1 z2 z3 z4 z5 z6 z7
  obtain ⟨x0, x1, x2, x3⟩ := kw.t.c4
  obtain ⟨y0, y1, y2, y3, y4, y5, y6, y7⟩ := kw.s.c8
  obtain ⟨z0, z1, z2, z3, z4, z5, z6, z7⟩ := kw.a.c8
  go_wp2_with fail
  refine (kfield kw M.kA A2 c2 kw.a1 15 5 30 M.k_o3 M.k_f3).mono ?_
  rintro e w7 ⟨rfl, hb7⟩
  have B7 := after_ B6 hb7
  replace kw := kw.below hb7
  clear x0 x1 x2 x3 y0 y1 y2 y3 y4 y5 y6 y7 z0 z1 z2 z3 z4 z5 z6 z7
  obtain ⟨x0, x1, x2, x3⟩ := kw.t.c4
  obtain ⟨y0, y1, y2, y3, y4, y5, y6, y7⟩ := kw.s.c8
  obtain ⟨z0, z1, z2, z3, z4, z5, z6, z7⟩ := kw.a.c8
  go_wp2_with fail
  refine (kfield kw M.kA A2 c2 kw.a1 5 15 60 M.k_o4 M.k_f4).mono ?_
  rintro e w8 ⟨rfl, hb8⟩
  have B8 := after_ B7 hb8
  replace kw := kw.below hb8
  clear x0 x1 x2 x3 y0 y1 y2 y3 y4 y5 y6 y7 z0 z1 z2 z3 z4 z5 z6 z7
  obtain ⟨x0, x1, x2, x3⟩ := kw.t.c4
  obtain ⟨y0, y1, y2, y3, y4, y5, y6, y7⟩ := kw.s.c8
  obtain ⟨z0, z1, z2, z3, z4, z5, z6, z7⟩ := kw.a.c8
  obtain ⟨V8, HV8, l8, hb9, -⟩ := boxes1 w8 #[.int .i64 M.kS.id, .int .i64 M.kS.x, .int .i64 M.kS.y, .int .i64 M.kS.pw, .int .i64 M.kS.h, .slice A1 M.kS.pat.length c1, .int .i64 M.kS.band, .int .i64 M.kS.ch, .int .i64 M.kA.id, .int .i64 M.kA.x, .int .i64 M.kA.y, .int .i64 M.kA.pw, .int .i64 M.kA.h, .slice A2 M.kA.pat.length c2, .int .i64 M.kA.band, .int .i64 M.kA.ch] 28
  have B9 := after_ B8 hb9
  have hL : Sl 8 secell V8 V8.heap.size (some ⟨w8.heap.size, 0, none⟩) [⟨M.kS, A1, c1⟩, ⟨M.kA, A2, c2⟩] := Sl.of_box l8 rfl
  replace kw := kw.below hb9
  have h8 := HV8.out
  obtain ⟨p0, p1, p2, p3⟩ := kw.t.c4
  go_wp2_with fail
  clear h8
  clear x0 x1 x2 x3 y0 y1 y2 y3 y4 y5 y6 y7 z0 z1 z2 z3 z4 z5 z6 z7
  refine (kstrong kw _ 2 2 [⟨M.kS, A1, c1⟩, ⟨M.kA, A2, c2⟩] rfl hL kw.pats (by simp) (kpl _ _ _ _ _ _ (by decide) (by decide)) _ rfl 5 5 2 100 0 M.k_s1).mono ?_
  rintro e w10 ⟨rfl, hb10⟩
  have B10 := after_ B9 hb10
  replace kw := kw.below hb10
  replace hL := (hL.below hb10).more hb10.size
  clear p0 p1 p2 p3
  obtain ⟨p0, p1, p2, p3⟩ := kw.t.c4
  go_wp2_with fail
  refine (kstrong kw _ 2 2 [⟨M.kS, A1, c1⟩, ⟨M.kA, A2, c2⟩] rfl hL kw.pats (by simp) (kpl _ _ _ _ _ _ (by decide) (by decide)) _ rfl 15 5 4 60 0 M.k_s2).mono ?_
  rintro e w11 ⟨rfl, hb11⟩
  have B11 := after_ B10 hb11
  replace kw := kw.below hb11
  replace hL := (hL.below hb11).more hb11.size
  clear p0 p1 p2 p3
  obtain ⟨p0, p1, p2, p3⟩ := kw.t.c4
  go_wp2_with fail
  refine (kstrong kw none 0 0 [] rfl Sl.nil_ (fun _ h => absurd h (by simp)) (by decide) (fun _ h => absurd h (by simp)) _ rfl 0 0 0 0 9 M.k_s3).mono ?_
  rintro e w12 ⟨rfl, hb12⟩
  have B12 := after_ B11 hb12
  replace kw := kw.below hb12
  replace hL := (hL.below hb12).more hb12.size
  clear p0 p1 p2 p3
  go_wp2_with fail
  refine (ksort (some ⟨w8.heap.size, 0, none⟩) 2 A1 A2 c1 c2 w12 hL kw.pats).mono ?_
  rintro e w13 ⟨OA, oc, O1, oc1, O2, oc2, rfl, hSO, hP1, hP2, hb13⟩
  have B13 := after_ B12 hb13
  replace kw := kw.below hb13
  replace hL := (hL.below hb13).more hb13.size
  obtain ⟨y0, y1, y2, y3, y4, y5, y6, y7⟩ := kw.s.c8
  obtain ⟨U, HU, u0, hbU, -⟩ := boxes1 w13 #[.int .i64 M.kS.id, .int .i64 M.kS.x, .int .i64 M.kS.y, .int .i64 M.kS.pw, .int .i64 M.kS.h, .slice A1 M.kS.pat.length c1, .int .i64 M.kS.band, .int .i64 M.kS.ch, .int .i64 M.kS.id, .int .i64 M.kS.x, .int .i64 M.kS.y, .int .i64 M.kS.pw, .int .i64 M.kS.h, .slice A1 M.kS.pat.length c1, .int .i64 M.kS.band, .int .i64 M.kS.ch] 28
  have hU := HU.out
  have BU := after_ B13 hbU
  replace kw := kw.below hbU
  replace hL := (hL.below hbU).more hbU.size
  replace hSO := (hSO.below hbU).more hbU.size
  replace hP1 := (hP1.below hbU).more hbU.size
  replace hP2 := (hP2.below hbU).more hbU.size
  have hLs : Sl 8 secell U U.heap.size (some ⟨w13.heap.size, 0, none⟩) [⟨M.kS, A1, c1⟩, ⟨M.kS, A1, c1⟩] := Sl.of_box u0 rfl
  go_wp2_with fail
  clear hU y0 y1 y2 y3 y4 y5 y6 y7
  refine (ksort2 (some ⟨w13.heap.size, 0, none⟩) 2 A1 c1 U hLs kw.pats2).mono ?_
  rintro e w14 ⟨XA, xc, rfl, hb14⟩
  have B14 := after_ BU hb14
  replace kw := kw.below hb14
  replace hL := (hL.below hb14).more hb14.size
  replace hSO := (hSO.below hb14).more hb14.size
  replace hP1 := (hP1.below hb14).more hb14.size
  replace hP2 := (hP2.below hb14).more hb14.size
  go_wp2_with fail
  refine (kfind (some ⟨w8.heap.size, 0, none⟩) 2 A1 A2 c1 c2 2 M.kA 0 w14 hL kw.pats M.k_n1).mono ?_
  rintro e w15 ⟨FA, fc, rfl, hF, -, hb15⟩
  have B15 := after_ B14 hb15
  replace hL := (hL.below hb15).more hb15.size
  replace hSO := (hSO.below hb15).more hb15.size
  replace hP1 := (hP1.below hb15).more hb15.size
  replace hP2 := (hP2.below hb15).more hb15.size
  replace kw := kw.below hb15
  obtain ⟨U2, HU2, g0, hbU2, -⟩ := boxes1 w15 (stc M.kA FA fc) 28
  have BU2 := after_ B15 hbU2
  replace hF := (hF.below hbU2).more hbU2.size
  replace hL := (hL.below hbU2).more hbU2.size
  replace hSO := (hSO.below hbU2).more hbU2.size
  replace hP1 := (hP1.below hbU2).more hbU2.size
  replace hP2 := (hP2.below hbU2).more hbU2.size
  replace kw := kw.below hbU2
  have hU2 := HU2.out
  go_wp2_with fail
  clear hU2
  refine (kfind (some ⟨w8.heap.size, 0, none⟩) 2 A1 A2 c1 c2 3 zst 9 U2 hL kw.pats M.k_n2).mono ?_
  rintro e w16 ⟨F2, f2, rfl, hF2, -, hb16⟩
  have B16 := after_ BU2 hb16
  replace hL := (hL.below hb16).more hb16.size
  replace hSO := (hSO.below hb16).more hb16.size
  replace hP1 := (hP1.below hb16).more hb16.size
  replace hP2 := (hP2.below hb16).more hb16.size
  replace kw := kw.below hb16
  replace hF := (hF.below hb16).more hb16.size
  replace g0 := g0.below hb16
  obtain ⟨U3, HU3, g1, hbU3, -⟩ := boxes1 w16 #[.int .i64 0, .int .i64 0, .int .i64 0, .int .i64 0, .int .i64 0, .slice F2 0 f2, .int .i64 0, .int .i64 0] 28
  have BU3 := after_ B16 hbU3
  replace hF := (hF.below hbU3).more hbU3.size
  replace g0 := g0.below hbU3
  replace hL := (hL.below hbU3).more hbU3.size
  replace hSO := (hSO.below hbU3).more hbU3.size
  replace hP1 := (hP1.below hbU3).more hbU3.size
  replace hP2 := (hP2.below hbU3).more hbU3.size
  replace kw := kw.below hbU3
  go_wp2_with fail
  rw [HU3.out]
  refine (kfind (some ⟨w8.heap.size, 0, none⟩) 2 A1 A2 c1 c2 512 zst 2 U3 hL kw.pats M.k_n3).mono ?_
  rintro e w17 ⟨F3, f3, rfl, hF3, -, hb17⟩
  have B17 := after_ BU3 hb17
  replace hL := (hL.below hb17).more hb17.size
  replace hSO := (hSO.below hb17).more hb17.size
  replace hP1 := (hP1.below hb17).more hb17.size
  replace hP2 := (hP2.below hb17).more hb17.size
  replace kw := kw.below hb17
  replace hF := (hF.below hb17).more hb17.size
  replace g0 := g0.below hb17
  obtain ⟨U4, HU4, g2, hbU4, -⟩ := boxes1 w17 #[.int .i64 0, .int .i64 0, .int .i64 0, .int .i64 0, .int .i64 0, .slice F3 0 f3, .int .i64 0, .int .i64 0] 28
  have BU4 := after_ B17 hbU4
  replace hF := (hF.below hbU4).more hbU4.size
  replace g0 := g0.below hbU4
  replace hL := (hL.below hbU4).more hbU4.size
  replace hSO := (hSO.below hbU4).more hbU4.size
  replace hP1 := (hP1.below hbU4).more hbU4.size
  replace hP2 := (hP2.below hbU4).more hbU4.size
  replace kw := kw.below hbU4
  clear hF2 hF3 g1 g2 hb9 hb10 hb11 hb12 hb13 hb14 hb15 hb16 hb17 hbU hbU2 hbU3 hbU4 B9 B10 B11 B12 B13 B14 B15 B16 B17 BU BU2 BU3
  obtain ⟨y0, y1, y2, y3, y4, y5, y6, y7⟩ := kw.s.c8
  obtain ⟨z0, z1, z2, z3, z4, z5, z6, z7⟩ := kw.a.c8
  obtain ⟨v0, v1, v2, v3, v4, v5, v6, v7⟩ := g0.c8
  obtain ⟨oa, rfl, ob, a0, a1, a2, a3, a4, a5, a6, a7⟩ := hSO.st8 (k := 0) (by simp)
  obtain ⟨oa', eoa, ob', b0, b1, b2, b3, b4, b5, b6, b7⟩ := hSO.st8 (k := 1) (by simp)
  obtain rfl := Option.some.inj eoa
  clear eoa
  simp only [List.getElem_cons_zero, List.getElem_cons_succ] at a0 a1 a2 a3 a4 a5 a6 a7 b0 b1 b2 b3 b4 b5 b6 b7
  rw [show oa.add (0 * 8) = oa by simp [Addr.add]] at a0 a1 a2 a3 a4 a5 a6 a7 ob
  rw [show oa.add (1 * 8) = ⟨oa.block, oa.off + 8, none⟩ by simp [Addr.add]] at b0 b1 b2 b3 b4 b5 b6 b7
  dsimp only at b0 b1 b2 b3 b4 b5 b6 b7
  clear ob'
  have l1 := kw.s.lt
  have l2 := kw.a.lt
  have l3 := g0.lt
  go_wp2_with fail
  rw [HU4.out]
  refine wp_region_kept U4.heap.size U4 (by kernel_rfl) (by kernel_rfl) (Below.refl _ _) ?_
  repeat (go_big_quiet_step ((first | (go_at_call 19; with_reducible exact Kept.calls (Nat.le_refl _) (keq M.kA O1 A2 oc1 c2 _ hP1.kept kw.a1.kept (by decide))) | (go_at_call 19; with_reducible exact Kept.calls (Nat.le_refl _) (keq M.kS O2 A1 oc2 c1 _ hP2.kept kw.s1.kept (by decide))) | (go_at_call 19; with_reducible exact Kept.calls (Nat.le_refl _) (keq M.kA FA A2 fc c2 _ hF.kept kw.a1.kept (by decide))) | (go_at_call 26; with_reducible exact Kept.same (kband 1 0 _ (by decide))) | (go_at_call 26; with_reducible exact Kept.same (kband 6 1 _ (by decide))) | (go_at_call 26; with_reducible exact Kept.same (kband 13 2 _ (by decide))) | (go_at_call 26; with_reducible exact Kept.same (kband 14 3 _ (by decide))) | (go_at_call 26; with_reducible exact Kept.same (kband 52 0 _ (by decide))))))
  refine wpQuiet_nil ?_
  rintro w20 ⟨⟨_, hb20⟩, rfl⟩
  go_wp2_with fail
  go_ret
  exact ⟨rfl, after_ BU4 hb20⟩
end Go.Proofs.YtfcaikahdcpglaaDoor
