/- A bundle of texts: Kn47, RdT, Rd1, Rd2, Rd3, Rd4. -/
import Derived.Test.YtceobfigfmnacaaDoorD22
import Derived.Test.YtceobfigfmnacaaDoorD23
import Derived.Test.YtceobfigfmnacaaDoorD07
import Derived.Test.YtceobfigfmnacaaDoorD04
section
namespace Go.Proofs.YtceobfigfmnacaaDoor
open Go Go.RowKit
set_option maxRecDepth 100000
abbrev kpsc : Array Value := #[.int .i64 1, .int .i64 2, .int .i64 0, .int .i64 14, .int .i64 51, .int .i64 2, .int .i64 3, .int .i64 0, .int .i64 14, .int .i64 51]
abbrev klc (x : Int) : Array Value := #[.int .i64 1, .int .i64 20, .int .i64 21, .int .i64 0, .int .i64 0, .int .i64 1, .int .i64 2, .int .i64 21, .int .i64 22, .int .i64 0, .int .i64 0, .int .i64 1, .int .i64 3, .int .i64 22, .int .i64 x, .int .i64 0, .int .i64 0, .int .i64 1]
structure K47 (w0 w : World) (bp bl : Nat) (x : Int) : Prop where
  bel : Below w0.heap.size w0 w
  p : Box w bp kpsc 65
  l : Box w bl (klc x) 26
  tab0 : Tab64 w0
theorem K47.tab {w0 w : World} {bp bl : Nat} {x : Int} (h : K47 w0 w bp bl x) : Tab64 w := h.tab0.kept h.bel
theorem K47.next {w0 w w' : World} {bp bl : Nat} {x : Int} (h : K47 w0 w bp bl x) (hb : Below w.heap.size w w') : K47 w0 w' bp bl x := ⟨after_ h.bel hb, h.p.below hb, h.l.below hb, h.tab0⟩
theorem K47.ps {w0 w : World} {bp bl : Nat} {x : Int} (h : K47 w0 w bp bl x) : Sl 5 p5cell w w.heap.size (some ⟨bp, 0, none⟩) M.kps := Sl.of_box h.p rfl
theorem K47.ls {w0 w : World} {bp bl : Nat} (h : K47 w0 w bp bl 30) : Sl 6 mvcell w w.heap.size (some ⟨bl, 0, none⟩) M.kl := Sl.of_box h.l rfl
theorem K47.ls2 {w0 w : World} {bp bl : Nat} (h : K47 w0 w bp bl 21) : Sl 6 mvcell w w.heap.size (some ⟨bl, 0, none⟩) M.kl2 := Sl.of_box h.l rfl
theorem k_err {er : Int} (h : M.errIs M.kps M.kl er) : er = 0 := by
  rcases h with ⟨-, -, h⟩ | ⟨-, h2, -⟩ | ⟨h, -⟩
  · exact h
  · exact absurd h2 (by decide)
  · exact absurd M.kl_ok h
theorem k_err2 {er : Int} (h : M.errIs M.kps M.kl2 er) : er = 0 := by
  rcases h with ⟨-, -, h⟩ | ⟨-, h2, -⟩ | ⟨h, -⟩
  · exact h
  · exact absurd h2 (by decide)
  · exact absurd M.kl2_ok h
theorem kGroups {w0 w : World} {bp bl : Nat} (h : K47 w0 w bp bl 30) : Calls Tryd.prog 15 #[.slice (some ⟨bp, 0, none⟩) 2 2, .slice (some ⟨bl, 0, none⟩) 3 3] w fun e w' => (∃ A c ls, e = .returned (.tuple #[.slice A ls.length c, .int .i64 0]) ∧ LL w' A ls ∧ ls.map (·.xs) = [[3], [2], [1]]) ∧ Below w.heap.size w w' := by
  refine (groups_ok _ 2 2 M.kps _ 3 M.kl w h.tab rfl h.ps h.ls (by decide) M.kps_w).mono ?_
  rintro e w' ⟨⟨er, her, hc⟩, hb⟩
  refine ⟨?_, hb⟩
  rcases hc with ⟨h1, -⟩ | ⟨-, A, c, ls, rfl, hlo, hls⟩
  · exact absurd (k_err her) h1
  · exact ⟨A, c, ls, rfl, hlo.ll, by rw [hls, M.k_grps]⟩
theorem kGroups2 {w0 w : World} {bp bl : Nat} (h : K47 w0 w bp bl 21) : Calls Tryd.prog 15 #[.slice (some ⟨bp, 0, none⟩) 2 2, .slice (some ⟨bl, 0, none⟩) 3 3] w fun e w' => (∃ A c ls, e = .returned (.tuple #[.slice A ls.length c, .int .i64 0]) ∧ LL w' A ls ∧ ls.map (·.xs) = [[2, 3], [1]]) ∧ Below w.heap.size w w' := by
  refine (groups_ok _ 2 2 M.kps _ 3 M.kl2 w h.tab rfl h.ps h.ls2 (by decide) M.kps_w).mono ?_
  rintro e w' ⟨⟨er, her, hc⟩, hb⟩
  refine ⟨?_, hb⟩
  rcases hc with ⟨h1, -⟩ | ⟨-, A, c, ls, rfl, hlo, hls⟩
  · exact absurd (k_err2 her) h1
  · exact ⟨A, c, ls, rfl, hlo.ll, by rw [hls, M.k_grps2]⟩
theorem kBefore {w0 w : World} {bp bl : Nat} (h : K47 w0 w bp bl 30) : Calls Tryd.prog 17 #[.slice (some ⟨bp, 0, none⟩) 2 2, .slice (some ⟨bl, 0, none⟩) 3 3, .int .i64 1] w fun e w' => (∃ A c, e = .returned (.tuple #[.slice A 2 c, .int .i64 0]) ∧ Sl 1 icell w' w'.heap.size A [2, 3]) ∧ Below w.heap.size w w' := by
  refine (before_ok _ 2 2 M.kps _ 3 M.kl 1 w h.tab rfl h.ps h.ls (by decide) M.kps_w (by unfold M.W64; omega)).mono ?_
  rintro e w' ⟨⟨er, her, hc⟩, hb⟩
  refine ⟨?_, hb⟩
  rcases hc with ⟨h1, -⟩ | ⟨-, ⟨hn, -⟩ | ⟨v, A, c, hv, rfl, hS⟩⟩
  · exact absurd (k_err her) h1
  · rw [M.k_idx] at hn; cases hn
  · rw [M.k_idx] at hv
    obtain rfl := Option.some.inj hv
    rw [M.k_bef] at hS ⊢
    exact ⟨A, c, rfl, hS⟩
theorem kDepth {w0 w : World} {bp bl : Nat} (h : K47 w0 w bp bl 30) : Calls Tryd.prog 19 #[.slice (some ⟨bp, 0, none⟩) 2 2, .slice (some ⟨bl, 0, none⟩) 3 3] w fun e w' => e = .returned (.tuple #[.int .i64 3, .int .i64 0]) ∧ Below w.heap.size w w' := by
  refine (depth_ok _ 2 2 M.kps _ 3 M.kl w h.tab rfl h.ps h.ls (by decide) M.kps_w).mono ?_
  rintro e w' ⟨⟨er, her, hc⟩, hb⟩
  refine ⟨?_, hb⟩
  rcases hc with ⟨h1, -⟩ | ⟨-, rfl⟩
  · exact absurd (k_err her) h1
  · rw [M.k_depth]; rfl
theorem kDepth2 {w0 w : World} {bp bl : Nat} (h : K47 w0 w bp bl 21) : Calls Tryd.prog 19 #[.slice (some ⟨bp, 0, none⟩) 2 2, .slice (some ⟨bl, 0, none⟩) 3 3] w fun e w' => e = .returned (.tuple #[.int .i64 2, .int .i64 0]) ∧ Below w.heap.size w w' := by
  refine (depth_ok _ 2 2 M.kps _ 3 M.kl2 w h.tab rfl h.ps h.ls2 (by decide) M.kps_w).mono ?_
  rintro e w' ⟨⟨er, her, hc⟩, hb⟩
  refine ⟨?_, hb⟩
  rcases hc with ⟨h1, -⟩ | ⟨-, rfl⟩
  · exact absurd (k_err2 her) h1
  · rw [M.k_depth2]; rfl
theorem kLegal {w0 w : World} {bp bl : Nat} (h : K47 w0 w bp bl 30) (OA : Option Addr) (oc no : Nat) (os : List SLc) (r : Int) (hno : no = os.length) (hO : LL w OA os) (hol : os.length ≤ 10) (hoi : ∀ s ∈ os, s.xs.length ≤ 10 ∧ ∀ x ∈ s.xs, 0 ≤ x ∧ x ≤ 10) (hr : M.legal M.kps M.kl (os.map (·.xs)) = r) : Calls Tryd.prog 23 #[.slice (some ⟨bp, 0, none⟩) 2 2, .slice (some ⟨bl, 0, none⟩) 3 3, .slice OA no oc] w fun e w' => e = .returned (.int .i64 r) ∧ Below w.heap.size w w' := by
  subst hno hr
  refine (legal_ok _ 2 2 M.kps _ 3 M.kl OA oc os w h.tab rfl h.ps h.ls (by decide) M.kps_w hO (by omega) (fun s hs => ⟨by have := (hoi s hs).1; omega, fun x hx => by have := (hoi s hs).2 x hx; unfold M.W64; omega⟩)).mono ?_
  rintro e w' ⟨⟨er, her, hc⟩, hb⟩
  refine ⟨?_, hb⟩
  rcases hc with ⟨h1, -⟩ | ⟨-, rfl⟩
  · exact absurd (k_err her) h1
  · rfl
theorem K47.set {w0 w : World} {bp bl : Nat} (h : K47 w0 w bp bl 30) (h1 : w0.heap.size ≤ bl) (h2 : bp ≠ bl) : K47 w0 (w.setCell ⟨bl, 14, none⟩ (.int .i64 21)) bp bl 21 :=
  ⟨h.bel.setCell (p := ⟨bl, 14, none⟩) h1 _, h.p.set_other (p := ⟨bl, 14, none⟩) h2 _, h.l.set 14 (.int .i64 21), h.tab0⟩
theorem LL.lit {w : World} {b : Nat} {cs : Array Value} {t : TypeId} {ls : List SLc} (hb : Box w b cs t) (h : cs.toList = flat 1 slcell ls) (hi : ∀ s ∈ ls, Sl 1 icell w w.heap.size s.A s.xs) : LL w (some ⟨b, 0, none⟩) ls := ⟨Sl.of_box hb h, hi⟩
set_option maxHeartbeats 64000000 in
theorem known47_any (w : World) (ht : Tab64 w) : Calls Tryd.prog 9 #[] w fun e w' => e = .returned (.bool true) ∧ Below w.heap.size w w' := by
  obtain ⟨V, HW, x1, x2, hB, -⟩ := boxes2 w kpsc 65 (klc 30) 26
  have kw : K47 w V w.heap.size (w.heap.size + 1) 30 := ⟨hB, x1, x2, ht⟩
  have hV := HW.out
  clear x1 x2 hB ht
  go_enter Tryd.func9, Tryd.ntmps9
  go_wp2_with fail
  refine (kGroups kw).mono ?_
  clear hV
  rintro e w2 ⟨⟨A1, c1, ls, rfl, hll, hls⟩, hb2⟩
  replace kw := kw.next hb2
  clear hb2
  go_wp2_with fail
  refine (kBefore kw).mono ?_
  rintro e w3 ⟨⟨A2, c2, rfl, hS2⟩, hb3⟩
  replace kw := kw.next hb3
  replace hll := hll.next hb3
  clear hb3
  go_wp2_with fail
  refine (kDepth kw).mono ?_
  rintro e w4 ⟨rfl, hb4⟩
  replace kw := kw.next hb4
  replace hll := hll.next hb4
  replace hS2 := (hS2.below hb4).more hb4.size
  clear hb4
  have hll3 : ls.length = 3 := by have := congrArg List.length hls; rw [List.length_map] at this; exact this
  obtain ⟨V1, HV1, ya0, ya1, ya2, ya3, hBV1, hsV1⟩ := boxes4 w4 #[.int .i64 3] 3 #[.int .i64 2] 3 #[.int .i64 1] 3 #[.slice (some ⟨w4.heap.size, 0, none⟩) 1 1, .slice (some ⟨w4.heap.size + 1, 0, none⟩) 1 1, .slice (some ⟨w4.heap.size + 1 + 1, 0, none⟩) 1 1] 39
  have la : LL V1 (some ⟨w4.heap.size + 1 + 1 + 1, 0, none⟩) [⟨some ⟨w4.heap.size, 0, none⟩, 1, [3]⟩, ⟨some ⟨w4.heap.size + 1, 0, none⟩, 1, [2]⟩, ⟨some ⟨w4.heap.size + 1 + 1, 0, none⟩, 1, [1]⟩] := LL.lit ya3 rfl (fun s hs => by
    simp only [List.mem_cons, List.not_mem_nil, or_false] at hs
    rcases hs with rfl | rfl | rfl
    · exact Sl.of_box ya0 rfl
    · exact Sl.of_box ya1 rfl
    · exact Sl.of_box ya2 rfl)
  have hV1 := HV1.out
  clear hsV1 ya0 ya1 ya2 ya3
  have kS := rSameLists_any A1 _ c1 3 ls [⟨some ⟨w4.heap.size, 0, none⟩, 1, [3]⟩, ⟨some ⟨w4.heap.size + 1, 0, none⟩, 1, [2]⟩, ⟨some ⟨w4.heap.size + 1 + 1, 0, none⟩, 1, [1]⟩] V1 (hll.next hBV1) la (by omega) (fun s hs => by
    have h1 : s.xs ∈ ls.map (·.xs) := List.mem_map.2 ⟨s, hs, rfl⟩
    rw [hls] at h1
    simp only [List.mem_cons, List.not_mem_nil, or_false] at h1
    rcases h1 with h1 | h1 | h1 <;> rw [h1] <;> decide)
  rw [hll3, hls, show List.map (fun (x : SLc) => x.xs) [⟨some ⟨w4.heap.size, 0, none⟩, 1, [3]⟩, ⟨some ⟨w4.heap.size + 1, 0, none⟩, 1, [2]⟩, ⟨some ⟨w4.heap.size + 1 + 1, 0, none⟩, 1, [1]⟩] = [[3], [2], [1]] from rfl, decide_eq_true rfl] at kS
  replace kw := kw.next hBV1
  replace hS2 := (hS2.below hBV1).more hBV1.size
  clear hBV1 la hll hls HV1
  go_wp2_with fail
  clear hV1
  refine kS.mono ?_
  rintro e w5 ⟨rfl, hb5⟩
  clear kS
  replace kw := kw.next hb5
  replace hS2 := (hS2.below hb5).more hb5.size
  clear hb5
  obtain ⟨V2, HV2, z0, hBV2, -⟩ := boxes1 w5 #[.int .i64 2, .int .i64 3] 3
  have kS := rSame_any A2 _ c2 2 [2, 3] [2, 3] V2 ((hS2.below hBV2).more hBV2.size) (Sl.of_box z0 rfl) (by decide)
  rw [decide_eq_true rfl] at kS
  replace kw := kw.next hBV2
  have hV2 := HV2.out
  clear hBV2 z0 HV2 hS2
  go_wp2_with fail
  clear hV2
  refine kS.mono ?_
  rintro e w6 ⟨rfl, hb6⟩
  clear kS
  replace kw := kw.next hb6
  clear hb6
  obtain ⟨U0, HU0, yu00, yu01, hBU0, hsU0⟩ := boxes2 w6 #[.int .i64 1, .int .i64 2, .int .i64 3] 3 #[.slice (some ⟨w6.heap.size, 0, none⟩) 3 3] 39
  have lu0 : LL U0 (some ⟨w6.heap.size + 1, 0, none⟩) [⟨some ⟨w6.heap.size, 0, none⟩, 3, [1, 2, 3]⟩] := LL.lit yu01 rfl (fun s hs => by
    simp only [List.mem_cons, List.not_mem_nil, or_false] at hs
    rcases hs with rfl
    · exact Sl.of_box yu00 rfl)
  have hU0 := HU0.out
  clear hsU0 yu00 yu01
  replace kw := kw.next hBU0
  have kS := kLegal kw _ 1 1 [⟨some ⟨w6.heap.size, 0, none⟩, 3, [1, 2, 3]⟩] 0 rfl lu0 (by simp) (fun s hs => by
    simp only [List.mem_cons, List.not_mem_nil, or_false] at hs
    rcases hs with rfl <;> exact ⟨by simp, fun x hx => by simp at hx; omega⟩) M.k_l1
  clear hBU0 lu0 HU0
  go_wp2_with fail
  clear hU0
  refine kS.mono ?_
  rintro e v0 ⟨rfl, hb7⟩
  clear kS
  replace kw := kw.next hb7
  clear hb7
  obtain ⟨U1, HU1, yu10, yu11, yu12, yu13, hBU1, hsU1⟩ := boxes4 v0 #[.int .i64 1] 3 #[.int .i64 2] 3 #[.int .i64 3] 3 #[.slice (some ⟨v0.heap.size, 0, none⟩) 1 1, .slice (some ⟨v0.heap.size + 1, 0, none⟩) 1 1, .slice (some ⟨v0.heap.size + 1 + 1, 0, none⟩) 1 1] 39
  have lu1 : LL U1 (some ⟨v0.heap.size + 1 + 1 + 1, 0, none⟩) [⟨some ⟨v0.heap.size, 0, none⟩, 1, [1]⟩, ⟨some ⟨v0.heap.size + 1, 0, none⟩, 1, [2]⟩, ⟨some ⟨v0.heap.size + 1 + 1, 0, none⟩, 1, [3]⟩] := LL.lit yu13 rfl (fun s hs => by
    simp only [List.mem_cons, List.not_mem_nil, or_false] at hs
    rcases hs with rfl | rfl | rfl
    · exact Sl.of_box yu10 rfl
    · exact Sl.of_box yu11 rfl
    · exact Sl.of_box yu12 rfl)
  have hU1 := HU1.out
  clear hsU1 yu10 yu11 yu12 yu13
  replace kw := kw.next hBU1
  have kS := kLegal kw _ 3 3 [⟨some ⟨v0.heap.size, 0, none⟩, 1, [1]⟩, ⟨some ⟨v0.heap.size + 1, 0, none⟩, 1, [2]⟩, ⟨some ⟨v0.heap.size + 1 + 1, 0, none⟩, 1, [3]⟩] 10 rfl lu1 (by simp) (fun s hs => by
    simp only [List.mem_cons, List.not_mem_nil, or_false] at hs
    rcases hs with rfl | rfl | rfl <;> exact ⟨by simp, fun x hx => by simp at hx; omega⟩) M.k_l2
  clear hBU1 lu1 HU1
  go_wp2_with fail
  clear hU1
  refine kS.mono ?_
  rintro e v1 ⟨rfl, hb7⟩
  clear kS
  replace kw := kw.next hb7
  clear hb7
  obtain ⟨U2, HU2, yu20, yu21, yu22, hBU2, hsU2⟩ := boxes3 v1 #[.int .i64 3] 3 #[.int .i64 2] 3 #[.slice (some ⟨v1.heap.size, 0, none⟩) 1 1, .slice (some ⟨v1.heap.size + 1, 0, none⟩) 1 1] 39
  have lu2 : LL U2 (some ⟨v1.heap.size + 1 + 1, 0, none⟩) [⟨some ⟨v1.heap.size, 0, none⟩, 1, [3]⟩, ⟨some ⟨v1.heap.size + 1, 0, none⟩, 1, [2]⟩] := LL.lit yu22 rfl (fun s hs => by
    simp only [List.mem_cons, List.not_mem_nil, or_false] at hs
    rcases hs with rfl | rfl
    · exact Sl.of_box yu20 rfl
    · exact Sl.of_box yu21 rfl)
  have hU2 := HU2.out
  clear hsU2 yu20 yu21 yu22
  replace kw := kw.next hBU2
  have kS := kLegal kw _ 2 2 [⟨some ⟨v1.heap.size, 0, none⟩, 1, [3]⟩, ⟨some ⟨v1.heap.size + 1, 0, none⟩, 1, [2]⟩] 9 rfl lu2 (by simp) (fun s hs => by
    simp only [List.mem_cons, List.not_mem_nil, or_false] at hs
    rcases hs with rfl | rfl <;> exact ⟨by simp, fun x hx => by simp at hx; omega⟩) M.k_l3
  clear hBU2 lu2 HU2
  go_wp2_with fail
  clear hU2
  refine kS.mono ?_
  rintro e v2 ⟨rfl, hb7⟩
  clear kS
  replace kw := kw.next hb7
  clear hb7
  have cl := kw.l.cell 14 rfl
  have fl := kw.l.frozen 14
  go_wp2_with fail
  replace kw := kw.set (Nat.le_succ _) (by omega)
  clear cl fl
  refine (kGroups2 kw).mono ?_
  rintro e t1 ⟨⟨A1, c1, ls, rfl, hll, hls⟩, hb2⟩
  replace kw := kw.next hb2
  clear hb2
  go_wp2_with fail
  refine (kDepth2 kw).mono ?_
  rintro e t2 ⟨rfl, hb4⟩
  replace kw := kw.next hb4
  replace hll := hll.next hb4
  clear hb4
  have hll2 : ls.length = 2 := by have := congrArg List.length hls; rw [List.length_map] at this; exact this
  obtain ⟨V9, HV9, ye0, ye1, ye2, hBV9, hsV9⟩ := boxes3 t2 #[.int .i64 2, .int .i64 3] 3 #[.int .i64 1] 3 #[.slice (some ⟨t2.heap.size, 0, none⟩) 2 2, .slice (some ⟨t2.heap.size + 1, 0, none⟩) 1 1] 39
  have le : LL V9 (some ⟨t2.heap.size + 1 + 1, 0, none⟩) [⟨some ⟨t2.heap.size, 0, none⟩, 2, [2, 3]⟩, ⟨some ⟨t2.heap.size + 1, 0, none⟩, 1, [1]⟩] := LL.lit ye2 rfl (fun s hs => by
    simp only [List.mem_cons, List.not_mem_nil, or_false] at hs
    rcases hs with rfl | rfl
    · exact Sl.of_box ye0 rfl
    · exact Sl.of_box ye1 rfl)
  have hV9 := HV9.out
  clear hsV9 ye0 ye1 ye2
  have kS := rSameLists_any A1 _ c1 2 ls [⟨some ⟨t2.heap.size, 0, none⟩, 2, [2, 3]⟩, ⟨some ⟨t2.heap.size + 1, 0, none⟩, 1, [1]⟩] V9 (hll.next hBV9) le (by omega) (fun s hs => by
    have h1 : s.xs ∈ ls.map (·.xs) := List.mem_map.2 ⟨s, hs, rfl⟩
    rw [hls] at h1
    simp only [List.mem_cons, List.not_mem_nil, or_false] at h1
    rcases h1 with h1 | h1 <;> rw [h1] <;> decide)
  rw [hll2, hls, show List.map (fun (x : SLc) => x.xs) [⟨some ⟨t2.heap.size, 0, none⟩, 2, [2, 3]⟩, ⟨some ⟨t2.heap.size + 1, 0, none⟩, 1, [1]⟩] = [[2, 3], [1]] from rfl, decide_eq_true rfl] at kS
  replace kw := kw.next hBV9
  clear hBV9 le hll hls HV9
  go_wp2_with fail
  clear hV9
  refine kS.mono ?_
  rintro e t5 ⟨rfl, hb5⟩
  clear kS
  replace kw := kw.next hb5
  clear hb5
  go_wp2_with fail
  go_ret
  exact ⟨rfl, kw.bel⟩
end Go.Proofs.YtceobfigfmnacaaDoor
end

section
namespace Go.Proofs.YtceobfigfmnacaaDoor
open Go Go.RowKit
set_option maxRecDepth 100000
def fnl {α : Type} (n : Nat) (f : Nat → α) : List α := (List.range n).map f
section
variable {α : Type} {n : Nat} {f g : Nat → α}
theorem fnl_len : (fnl n f).length = n := by simp [fnl]
theorem fnl_at {k : Nat} (hk : k < (fnl n f).length) : (fnl n f)[k] = f k := by simp [fnl]
theorem fnl_congr (h : ∀ k, k < n → f k = g k) : fnl n f = fnl n g := by
  unfold fnl
  exact List.map_congr_left fun k hk => h k (List.mem_range.1 hk)
theorem fnl_set (k : Nat) (x : α) : (fnl n f).set k x = fnl n fun j => if j = k then x else f j := by
  apply List.ext_getElem
  · simp [fnl]
  · intro i h1 h2
    rw [List.getElem_set, fnl_at h2, fnl_at (by simpa using h1)]
    by_cases e : k = i
    · subst e; simp
    · rw [if_neg e, if_neg (fun h => e h.symm)]
theorem fnl_rep (x : α) : List.replicate n x = fnl n fun _ => x := by unfold fnl; rw [List.map_const', List.length_range]
end
def hvc (v : Value) (_ : Nat) : Value := v
def hdr (b : Nat → Nat) (n m : Nat) (i : Nat) : Value := if i < m then .slice (some ⟨b i, 0, none⟩) n n else .slice none 0 0
abbrev BR (w : World) (base g n : Nat) (f : Nat → Bool) : Prop := w.ownsRow base 4 1 (.slice (some ⟨g, 0, none⟩) n n) n (flat 1 blc (fnl n f))
section
variable {w : World} {base g n : Nat} {f : Nat → Bool}
theorem BR.at (h : BR w base g n f) {k : Nat} (hk : k < n) : w.cell? ⟨g, k, none⟩ = some (.bool (f k)) ∧ w.frozen? ⟨g, k, none⟩ = false := by
  have := own_at (size := 1) (cell := blc) h (k := k) (j := 0) (by rw [fnl_len]; exact hk) (by decide)
  rw [Nat.mul_one, Nat.add_zero, fnl_at] at this
  exact this
theorem BR.set (h : BR w base g n f) {k : Nat} (hk : k < n) (v : Bool) : BR (w.setCell ⟨g, k, none⟩ (.bool v)) base g n (fun j => if j = k then v else f j) := by
  have h3 := own_set (size := 1) (cell := blc) h (k := k) (by rw [fnl_len]; exact hk) (j := 0) (y := v) (u := .bool v) (by decide) rfl (fun j' h1 h2 => absurd h1 (by omega))
  rw [Nat.mul_one, Nat.add_zero, fnl_set] at h3
  exact h3
theorem BR.congr {f' : Nat → Bool} (h : BR w base g n f) (e : ∀ k, k < n → f k = f' k) : BR w base g n f' := by
  unfold BR at *
  rw [← fnl_congr e]
  exact h
end
structure TB (w : World) (base g n m : Nat) (b : Nat → Nat) (f : M.Tb) : Prop where
  outer : w.ownsRow base 54 1 (.slice (some ⟨g, 0, none⟩) n n) n (flat 1 hvc (fnl n (hdr b n m)))
  row : ∀ i, i < m → BR w base (b i) n (f i)
  mono : ∀ i j, i < j → j < m → b i < b j
  far : ∀ i, i < m → g < b i
section
variable {w w' : World} {base g n m : Nat} {b : Nat → Nat} {f : M.Tb}
theorem TB.next (h : TB w base g n m b f) (hb : Below w.heap.size w w') : TB w' base g n m b f := ⟨own_below h.outer hb, fun i hi => own_below (h.row i hi) hb, h.mono, h.far⟩
theorem TB.head (h : TB w base g n m b f) {i : Nat} (hm : m ≤ n) (hi : i < m) : w.cell? ⟨g, i, none⟩ = some (.slice (some ⟨b i, 0, none⟩) n n) := by
  have := (own_at (size := 1) (cell := hvc) h.outer (k := i) (j := 0) (by rw [fnl_len]; omega) (by decide)).1
  rw [Nat.mul_one, Nat.add_zero, fnl_at] at this
  rw [this]
  unfold hvc hdr
  rw [if_pos hi]
theorem TB.head0 (h : TB w base g n m b f) {i : Nat} (hi : i < n) (hm : m ≤ i) : w.cell? ⟨g, i, none⟩ = some (.slice none 0 0) := by
  have := (own_at (size := 1) (cell := hvc) h.outer (k := i) (j := 0) (by rw [fnl_len]; omega) (by decide)).1
  rw [Nat.mul_one, Nat.add_zero, fnl_at] at this
  rw [this]
  unfold hvc hdr
  rw [if_neg (by omega)]
theorem TB.headf (h : TB w base g n m b f) {i : Nat} (hi : i < n) : w.frozen? ⟨g, i, none⟩ = false := by
  have := (own_at (size := 1) (cell := hvc) h.outer (k := i) (j := 0) (by rw [fnl_len]; omega) (by decide)).2
  rwa [Nat.mul_one, Nat.add_zero] at this
theorem TB.at (h : TB w base g n m b f) {i k : Nat} (hi : i < m) (hk : k < n) : w.cell? ⟨b i, k, none⟩ = some (.bool (f i k)) ∧ w.frozen? ⟨b i, k, none⟩ = false := (h.row i hi).at hk
theorem TB.lt (h : TB w base g n m b f) {i : Nat} (hi : i < m) : base ≤ b i ∧ b i < w.heap.size := own_lt (h.row i hi)
theorem TB.glt (h : TB w base g n m b f) : base ≤ g ∧ g < w.heap.size := own_lt h.outer
theorem TB.inj (h : TB w base g n m b f) {i j : Nat} (hi : i < m) (hj : j < m) (e : b i = b j) : i = j := by
  rcases Nat.lt_trichotomy i j with h1 | h1 | h1
  · have := h.mono i j h1 hj; omega
  · exact h1
  · have := h.mono j i h1 hi; omega
theorem TB.set (h : TB w base g n m b f) {i k : Nat} (hi : i < m) (hk : k < n) (v : Bool) : TB (w.setCell ⟨b i, k, none⟩ (.bool v)) base g n m b (M.upd f i k v) := by
  refine ⟨h.outer.kept (grown_set w (b i) k (.bool v)) (.inr (fun e => by have e2 : g = b i := Option.some.inj e; have := h.far i hi; omega)), fun j hj => ?_, h.mono, h.far⟩
  by_cases e : j = i
  · subst e
    have h3 := (h.row j hj).set hk v
    refine h3.congr fun c _ => ?_
    unfold M.upd
    by_cases e2 : c = k
    · subst e2; rw [if_pos rfl, if_pos ⟨rfl, rfl⟩]
    · rw [if_neg e2, if_neg (fun h => e2 h.2)]
  · have h3 := World.ownsRow.kept (h.row j hj) (grown_set w (b i) k (.bool v)) (.inr (fun e2 => e (h.inj hj hi (Option.some.inj e2))))
    refine BR.congr (f := f j) h3 fun c _ => ?_
    unfold M.upd
    rw [if_neg (fun h => e h.1)]
theorem TB.kept {row : Option Nat} (h : TB w base g n m b f) (hg : w.grownBy w' row) (h1 : row ≠ some g) (h2 : ∀ i, i < m → row ≠ some (b i)) : TB w' base g n m b f :=
  ⟨h.outer.kept hg (.inr (fun e => h1 e.symm)), fun i hi => (World.ownsRow.kept (h.row i hi) hg (.inr (fun e => h2 i hi e.symm))), h.mono, h.far⟩
theorem TB.more (h : TB w base g n m b f) {c : Nat} (hm : m < n) (hr : BR w base c n (fun _ => false)) (hc : ∀ i, i < m → b i < c) (hgc : g < c) :
    TB (w.setCell ⟨g, m, none⟩ (.slice (some ⟨c, 0, none⟩) n n)) base g n (m + 1) (fun i => if i = m then c else b i) (fun i k => if i = m then false else f i k) := by
  refine ⟨?_, fun i hi => ?_, fun i j hij hj => ?_, fun i hi => ?_⟩
  · have h3 := own_set (size := 1) (cell := hvc) h.outer (k := m) (by rw [fnl_len]; exact hm) (j := 0) (y := .slice (some ⟨c, 0, none⟩) n n) (u := .slice (some ⟨c, 0, none⟩) n n) (by decide) rfl (fun j' h1 h2 => absurd h1 (by omega))
    rw [Nat.mul_one, Nat.add_zero, fnl_set] at h3
    have e : (fun j => if j = m then Value.slice (some ⟨c, 0, none⟩) n n else hdr b n m j) = hdr (fun i => if i = m then c else b i) n (m + 1) := by
      funext j
      unfold hdr
      by_cases e : j = m
      · subst e; rw [if_pos rfl, if_pos (by omega)]; simp
      · rw [if_neg e]
        by_cases h4 : j < m
        · rw [if_pos h4, if_pos (by omega)]; simp [e]
        · rw [if_neg h4, if_neg (by omega)]
    rwa [e] at h3
  · by_cases e : i = m
    · subst e
      simp only [if_pos]
      exact World.ownsRow.kept hr (grown_set w g i _) (.inr (fun e => by have e2 : c = g := Option.some.inj e; omega))
    · simp only [if_neg e]
      exact World.ownsRow.kept (h.row i (by omega)) (grown_set w g m _) (.inr (fun e2 => by have e2 : b i = g := Option.some.inj e2; have := h.far i (by omega); omega))
  · by_cases e : j = m
    · subst e
      have e3 : i ≠ j := by omega
      simp only [if_neg e3, if_pos]
      exact hc i hij
    · have e3 : i ≠ m := by omega
      simp only [if_neg e3, if_neg e]
      exact h.mono i j hij (by omega)
  · by_cases e : i = m
    · subst e; simp only [if_pos]; exact hgc
    · simp only [if_neg e]; exact h.far i (by omega)
theorem TB.congr {f' : M.Tb} (h : TB w base g n m b f) (e : ∀ i k, i < m → k < n → f i k = f' i k) : TB w base g n m b f' := ⟨h.outer, fun i hi => (h.row i hi).congr (fun k hk => e i k hi hk), h.mono, h.far⟩
end
theorem tbInfo : (Tryd.prog.info? 54).map (fun i => (i.zero, i.size, i.bytes)) = some (some (.slice none 0 0), 1, 24) := by kernel_rfl
end Go.Proofs.YtceobfigfmnacaaDoor
end

section
namespace Go.Proofs.YtceobfigfmnacaaDoor
open Go Go.RowKit
set_option maxRecDepth 100000
namespace M
structure Ints (ps : List P5) (l : List Mv) : Prop where
  p : ∀ p ∈ ps, W64 p.a ∧ W64 p.b ∧ W64 p.c
  l : ∀ m ∈ l, W64 m.st ∧ W64 m.old ∧ W64 m.new
theorem range_snoc {α : Type} (f : α → Nat → α) (a : α) (k : Nat) : (List.range (k + 1)).foldl f a = f ((List.range k).foldl f a) k := by rw [List.range_succ, List.foldl_append]; rfl
end M
theorem rWaits_in (PA : Option Addr) (pc np : Nat) (ps : List P5) (l : List Mv) (w : World) (hnp : np = ps.length) (hP : Sl 5 p5cell w w.heap.size PA ps) (hpl : ps.length ≤ 9223372036854775806) (hi : M.Ints ps l) {i k : Nat} (h1 : i < l.length) (h2 : k < l.length) (u : World) (hu : Below w.heap.size w u) :
    Calls Tryd.prog 13 #[.slice PA np pc, mvv l[i], mvv l[k]] u fun e w' => e = .returned (.bool (M.dep0 (M.rows ps l) i k)) ∧ Below u.heap.size u w' := by
  subst hnp
  have h3 := rWaits_ok PA pc ps l[i] l[k] u ((hP.below hu).more hu.size) hpl
  rw [M.rwaits_eq (hi.l _ (List.getElem_mem h1)).2.2 (hi.l _ (List.getElem_mem h2)).2.1 (fun p hp => (hi.p p hp).2.2), ← M.rows_at h1 h2] at h3
  exact h3
set_option maxHeartbeats 32000000 in
theorem rDepends_ok (PA : Option Addr) (pc np : Nat) (ps : List P5) (LA : Option Addr) (lc : Nat) (l : List Mv) (w : World) (hnp : np = ps.length) (hP : Sl 5 p5cell w w.heap.size PA ps) (hL : Sl 6 mvcell w w.heap.size LA l) (hpl : ps.length ≤ 9223372036854775806) (hl : l.length ≤ 1000000) (hi : M.Ints ps l) :
    Calls Tryd.prog 33 #[.slice PA np pc, .slice LA l.length lc] w fun e w' => ∃ g b, e = .returned (.slice (some ⟨g, 0, none⟩) l.length l.length) ∧ TB w' w.heap.size g l.length l.length b (M.dep (M.rows ps l)) ∧ Below w.heap.size w w' := by
  obtain ⟨ib, hib, hzb0, hzb1, hzb2⟩ := info_parts blInfo
  have Hib := Lib.hid hib; have Hzb0 := Lib.hid hzb0; have Hzb1 := Lib.hid hzb1; have Hzb2 := Lib.hid hzb2
  clear hib hzb0 hzb1 hzb2
  obtain ⟨il, hil, hzl0, hzl1, hzl2⟩ := info_parts tbInfo
  have Hil := Lib.hid hil; have Hzl0 := Lib.hid hzl0; have Hzl1 := Lib.hid hzl1; have Hzl2 := Lib.hid hzl2
  clear hil hzl0 hzl1 hzl2
  have KW := Lib.hid (fun (i k : Nat) (h1 : i < l.length) (h2 : k < l.length) (u : World) (hu : Below w.heap.size w u) => rWaits_in PA pc np ps l w hnp hP hpl hi h1 h2 u hu)
  have HL : Hid (∀ W, Below w.heap.size w W → Sl 6 mvcell W w.heap.size LA l) := Lib.hid (fun W hb => hL.below hb)
  have HDEP : Hid (M.dep (M.rows ps l) = M.turnsT l.length l.length (M.dep0 (M.rows ps l))) := Lib.hid (by unfold M.dep; rw [M.rows_len])
  clear hnp hP hpl hi hL
  generalize M.dep0 (M.rows ps l) = d0 at *
  generalize M.dep (M.rows ps l) = dd at *
  go_enter Tryd.func33, Tryd.ntmps33
  obtain ⟨n, hn⟩ : ∃ n, l.length = n := ⟨_, rfl⟩
  have HN := Lib.hid hn
  rw [hn] at hl ⊢
  clear hn
  go_wp2_with (at_make; refine wpList_make_full _ rfl _ _ 72 rfl w.heap.size 54 il _ 1 Tryd.underlying72 Hil.out Hzl0.out Hzl1.out .i64 .i64 _ _ n rfl rfl rfl rfl (by rw [Hzl2.out]; omega) (by unfold maxLen; omega) (Nat.le_refl _) ?_; intro w4 hown4 hg4)
  have em := made_flat (cell := hvc) (size := 1) (x0 := Value.slice none 0 0) (by decide) (Value.slice none 0 0).cells rfl n
  rw [em, fnl_rep] at hown4
  clear em
  have tb0 : TB w4 w.heap.size w.heap.size n 0 (fun _ => 0) (fun _ _ => false) := ⟨hown4, fun i h => absurd h (by omega), fun i j _ h => absurd h (by omega), fun i h => absurd h (by omega)⟩
  have B4 : Below w.heap.size w w4 := (Below.refl _ _).grown hg4 (Nat.le_refl _) (by simp)
  clear hown4 hg4
  refine wp_loop_mrg [7, 8, 17, 18, 19, 20, 21, 22, 23, 24, 25, 26, 27, 28, 29, 30, 31, 32, 33, 34, 35, 36, 37, 38, 39, 40, 41, 42, 43, 44, 45, 46, 47] (fun mm f ds W0 => ds = [] ∧ ∃ (i : Nat) (b : Nat → Nat) (f8 : M.Tb), f 7 = .int .i64 i ∧ mm = n - i ∧ i ≤ n ∧ Below w.heap.size w W0 ∧ TB W0 w.heap.size w.heap.size n i b f8 ∧ Hid (∀ a c, a < i → c < n → f8 a c = d0 a c)) n ⟨rfl, 0, _, _, rfl, rfl, Nat.zero_le _, B4, tb0, Lib.hid (fun a c h => absurd h (by omega))⟩ ?_
  clear tb0 B4
  intro c1' T1' hc2 hT2
  rintro mm f ds W0 ⟨rfl, i, b, f8, hf7, rfl, hi, hB, tb, HD⟩
  replace hc2 := hc2.out
  subst hc2
  replace hT2 := hT2.out
  subst hT2
  generalize hF : mrgF _ 0 _ _ = F
  simp only [mrg_hit, mrg_miss, mrg_end, Nat.reduceBEq, Nat.reduceAdd] at hF
  rw [hf7] at hF
  subst hF
  by_cases hlt : i < n
  · have x0 : (0 : Int) ≤ (i : Int) := by omega
    have x1 : (i : Int) < (n : Int) := by omega
    have q0 : decide ((i : Int) < (n : Int)) = true := decide_eq_true x1
    have HTL : Hid (∀ i', i' < i → b i' < W0.heap.size) := Lib.hid (fun i' h => (tb.lt h).2)
    have hhf := tb.headf hlt
    go_wp2_with (at_make; refine wpList_make_full _ rfl _ _ 54 rfl w.heap.size 4 ib _ 1 Tryd.underlying54 Hib.out Hzb0.out Hzb1.out .i64 .i64 _ _ n rfl rfl rfl rfl (by rw [Hzb2.out]; omega) (by unfold maxLen; omega) hB.size ?_; intro w5 hown5 hg5; have hfz := (tb.kept hg5 (by simp) (by simp)).headf hlt; have hcz := (tb.kept hg5 (by simp) (by simp)).head0 hlt (Nat.le_refl _))
    obtain ⟨W5, hW5⟩ : ∃ W5, w5.setCell ⟨w.heap.size, i, none⟩ (.slice (some ⟨W0.heap.size, 0, none⟩) n n) = W5 := ⟨_, rfl⟩
    rw [hW5]
    have em := made_flat (cell := blc) (size := 1) (x0 := false) (by decide) (Value.bool false).cells rfl n
    rw [em, fnl_rep] at hown5
    clear em
    have tb5 := (tb.kept hg5 (by simp) (by simp)).more hlt hown5 HTL.out (tb.glt).2
    have B5 : Below w.heap.size w W5 := by rw [← hW5]; exact (hB.grown hg5 hB.size (by simp)).setCell (p := ⟨w.heap.size, i, none⟩) (Nat.le_refl _) _
    rw [hW5] at tb5
    have HD5 : Hid (∀ a c, c < n → (a < i ∨ a = i ∧ c < 0) → (if a = i then false else f8 a c) = d0 a c) := Lib.hid (fun a c hc h => by
      rcases h with h | h
      · rw [if_neg (by omega)]; exact HD.out a c h hc
      · omega)
    clear hW5 hown5 hg5 tb hB hfz hcz hhf HTL HD
    refine wp_loop_mrg [8, 27, 28, 29, 30, 31, 32, 33, 34, 35, 36, 37, 38, 39, 40, 41, 42, 43, 44, 45, 46, 47] (fun mm f ds W1 => ds = [] ∧ ∃ (k : Nat) (f9 : M.Tb), f 8 = .int .i64 k ∧ mm = n - k ∧ k ≤ n ∧ Below w.heap.size w W1 ∧ TB W1 w.heap.size w.heap.size n (i + 1) (fun i' => if i' = i then W0.heap.size else b i') f9 ∧ Hid (∀ a c, c < n → (a < i ∨ a = i ∧ c < k) → f9 a c = d0 a c)) n ⟨rfl, 0, _, rfl, rfl, Nat.zero_le _, B5, tb5, HD5⟩ ?_
    clear tb5 B5 HD5
    intro c2' T2' hc2 hT2
    rintro mm f ds W1 ⟨rfl, k, f9, hf8, rfl, hk, hB1, tb1, HD1⟩
    replace hc2 := hc2.out
    subst hc2
    replace hT2 := hT2.out
    subst hT2
    generalize hF : mrgF _ 0 _ _ = F
    simp only [mrg_hit, mrg_miss, mrg_end, Nat.reduceBEq, Nat.reduceAdd] at hF
    rw [hf8] at hF
    subst hF
    generalize hbb : (fun i' => if i' = i then W0.heap.size else b i') = bb at *
    by_cases hlk : k < n
    · have x0k : (0 : Int) ≤ (k : Int) := by omega
      have x1k : (k : Int) < (n : Int) := by omega
      have q0k : decide ((k : Int) < (n : Int)) = true := decide_eq_true x1k
      obtain ⟨la, hla, hlb, a0, a1, a2, a3, a4, a5⟩ := (HL.out W1 hB1).mv6 (show i < l.length by rw [HN.out]; exact hlt)
      obtain ⟨la', hla', hlb', b0, b1, b2, b3, b4, b5⟩ := (HL.out W1 hB1).mv6 (show k < l.length by rw [HN.out]; exact hlk)
      obtain rfl : la = la' := by rw [hla] at hla'; exact Option.some.inj hla'
      have KW1 := Lib.hid (KW.out i k (by rw [HN.out]; exact hlt) (by rw [HN.out]; exact hlk))
      have HSN : Hid (∀ a c, c < n → (a < i ∨ a = i ∧ c < k + 1) → M.upd f9 i k (d0 i k) a c = d0 a c) := Lib.hid (fun a c hc h => by
        unfold M.upd
        split
        · rename_i e; obtain ⟨rfl, rfl⟩ := e; rfl
        · rename_i e; exact HD1.out a c hc (by omega))
      generalize d0 i k = r at *
      generalize l[i]'(by rw [HN.out]; exact hlt) = mi at *
      generalize l[k]'(by rw [HN.out]; exact hlk) = mk at *
      subst hla
      clear hla' HD1
      have hd := tb1.head hlt (Nat.lt_succ_self i)
      go_wp2_with fail
      have tbd := tb1.next (Below.refl W1.heap.size W1).drew
      have HTD : Hid (∀ w2, Below W1.drew.heap.size W1.drew w2 → w2.cell? ⟨w.heap.size, i, none⟩ = some (.slice (some ⟨bb i, 0, none⟩) n n) ∧ (∃ vv, w2.cell? ⟨bb i, k, none⟩ = some vv) ∧ w2.frozen? ⟨bb i, k, none⟩ = false) := Lib.hid (fun w2 hb2 => ⟨(tbd.next hb2).head hlt (Nat.lt_succ_self i), ⟨_, ((tbd.next hb2).at (Nat.lt_succ_self i) hlk).1⟩, ((tbd.next hb2).at (Nat.lt_succ_self i) hlk).2⟩)
      go_region_law (go_simp; go_at_call 13; refine (KW1.out _ hB1.drew).mono ?_; rintro e w2 ⟨rfl, hb2⟩; obtain ⟨t0, ⟨vv, t1⟩, t2⟩ := HTD.out _ hb2)
      all_goals
        have htb2 := (tbd.next hb2).set (Nat.lt_succ_self i) hlk r
        have hB2 := (hB1.drew.trans (hb2.mono hB1.drew.size)).setCell (p := ⟨bb i, k, none⟩) (tbd.lt (Nat.lt_succ_self i)).1 (.bool r)
        clear t0 t1 t2
        go_wp2_with fail
        exact ⟨_, rfl, rfl, n - (k + 1), by omega, trivial, k + 1, _, rfl, rfl, hlk, hB2, htb2, HSN⟩
    · obtain rfl : n = k := by omega
      have q0 : decide ((n : Int) < (n : Int)) = false := decide_eq_false (by omega)
      have HD2 : Hid (∀ a c, a < i + 1 → c < n → f9 a c = d0 a c) := Lib.hid (fun a c ha hc => HD1.out a c hc (by omega))
      clear HD1
      go_wp2_with fail
      exact ⟨_, rfl, rfl, n - (i + 1), by omega, trivial, i + 1, _, _, rfl, rfl, hlt, hB1, tb1, HD2⟩
  · obtain rfl : n = i := by omega
    have q0 : decide ((n : Int) < (n : Int)) = false := decide_eq_false (by omega)
    have tb1 := tb.congr HD.out
    clear tb HD
    go_wp2_with fail
    clear q0
    refine wp_loop_mrg [9, 10, 11, 12, 48, 49, 50, 51, 52, 53, 54, 55, 56, 57, 58, 59, 60, 61, 62, 63, 64, 65, 66, 67, 68, 69, 70, 71, 72, 73, 74, 75, 76, 77, 78, 79, 80, 81, 82, 83, 84, 85, 86, 87, 88, 89] (fun mm f ds W1 => ds = [] ∧ ∃ (tt : Nat), f 9 = .int .i64 tt ∧ mm = n - tt ∧ tt ≤ n ∧ Below w.heap.size w W1 ∧ TB W1 w.heap.size w.heap.size n n b (M.turnsT n tt d0)) n ⟨rfl, 0, rfl, rfl, Nat.zero_le _, hB, tb1⟩ ?_
    clear tb1 hB
    intro c3' T3' hc2 hT2
    rintro mm f ds W1 ⟨rfl, tt, hf9, rfl, htt, hB1, tb2⟩
    replace hc2 := hc2.out
    subst hc2
    replace hT2 := hT2.out
    subst hT2
    generalize hF : mrgF _ 0 _ _ = F
    simp only [mrg_hit, mrg_miss, mrg_end, Nat.reduceBEq, Nat.reduceAdd] at hF
    rw [hf9] at hF
    subst hF
    by_cases hlt : tt < n
    · have x0 : (0 : Int) ≤ (tt : Int) := by omega
      have x1 : (tt : Int) < (n : Int) := by omega
      have q0 : decide ((tt : Int) < (n : Int)) = true := decide_eq_true x1
      have HE0 : Hid (M.turnsT n (tt + 1) d0 = (List.range n).foldl (M.stepI n) (M.turnsT n tt d0)) := Lib.hid rfl
      generalize M.turnsT n tt d0 = fa at *
      go_wp2_with fail
      refine wp_loop_mrg [10, 11, 12, 53, 54, 55, 56, 57, 58, 59, 60, 61, 62, 63, 64, 65, 66, 67, 68, 69, 70, 71, 72, 73, 74, 75, 76, 77, 78, 79, 80, 81, 82, 83, 84, 85, 86, 87, 88, 89] (fun mm f ds W2 => ds = [] ∧ ∃ (i : Nat), f 10 = .int .i64 i ∧ mm = n - i ∧ i ≤ n ∧ Below w.heap.size w W2 ∧ TB W2 w.heap.size w.heap.size n n b ((List.range i).foldl (M.stepI n) fa)) n ⟨rfl, 0, rfl, rfl, Nat.zero_le _, hB1, tb2⟩ ?_
      clear tb2 hB1
      intro c4' T4' hc2 hT2
      rintro mm f ds W2 ⟨rfl, i, hf10, rfl, hi, hB2, tb3⟩
      replace hc2 := hc2.out
      subst hc2
      replace hT2 := hT2.out
      subst hT2
      generalize hF : mrgF _ 0 _ _ = F
      simp only [mrg_hit, mrg_miss, mrg_end, Nat.reduceBEq, Nat.reduceAdd] at hF
      rw [hf10] at hF
      subst hF
      by_cases hlt2 : i < n
      · have x0i : (0 : Int) ≤ (i : Int) := by omega
        have x1i : (i : Int) < (n : Int) := by omega
        have q0i : decide ((i : Int) < (n : Int)) = true := decide_eq_true x1i
        have HE1 : Hid ((List.range (i + 1)).foldl (M.stepI n) fa = (List.range n).foldl (M.stepK n i) ((List.range i).foldl (M.stepI n) fa)) := Lib.hid (M.range_snoc _ _ _)
        generalize (List.range i).foldl (M.stepI n) fa = fb at *
        go_wp2_with fail
        refine wp_loop_mrg [11, 12, 58, 59, 60, 61, 62, 63, 64, 65, 66, 67, 68, 69, 70, 71, 72, 73, 74, 75, 76, 77, 78, 79, 80, 81, 82, 83, 84, 85, 86, 87, 88, 89] (fun mm f ds W3 => ds = [] ∧ ∃ (k : Nat), f 11 = .int .i64 k ∧ mm = n - k ∧ k ≤ n ∧ Below w.heap.size w W3 ∧ TB W3 w.heap.size w.heap.size n n b ((List.range k).foldl (M.stepK n i) fb)) n ⟨rfl, 0, rfl, rfl, Nat.zero_le _, hB2, tb3⟩ ?_
        clear tb3 hB2
        intro c5' T5' hc2 hT2
        rintro mm f ds W3 ⟨rfl, k, hf11, rfl, hk, hB3, tb4⟩
        replace hc2 := hc2.out
        subst hc2
        replace hT2 := hT2.out
        subst hT2
        generalize hF : mrgF _ 0 _ _ = F
        simp only [mrg_hit, mrg_miss, mrg_end, Nat.reduceBEq, Nat.reduceAdd] at hF
        rw [hf11] at hF
        subst hF
        by_cases hlt3 : k < n
        · have x0k : (0 : Int) ≤ (k : Int) := by omega
          have x1k : (k : Int) < (n : Int) := by omega
          have q0k : decide ((k : Int) < (n : Int)) = true := decide_eq_true x1k
          have HE2 : Hid ((List.range (k + 1)).foldl (M.stepK n i) fb = (List.range n).foldl (M.stepM i k) ((List.range k).foldl (M.stepK n i) fb)) := Lib.hid (M.range_snoc _ _ _)
          generalize (List.range k).foldl (M.stepK n i) fb = fc at *
          go_wp2_with fail
          refine wp_loop_mrg [12, 63, 64, 65, 66, 67, 68, 69, 70, 71, 72, 73, 74, 75, 76, 77, 78, 79, 80, 81, 82, 83, 84, 85, 86, 87, 88, 89] (fun mm f ds W4 => ds = [] ∧ ∃ (m : Nat), f 12 = .int .i64 m ∧ mm = n - m ∧ m ≤ n ∧ Below w.heap.size w W4 ∧ TB W4 w.heap.size w.heap.size n n b ((List.range m).foldl (M.stepM i k) fc)) n ⟨rfl, 0, rfl, rfl, Nat.zero_le _, hB3, tb4⟩ ?_
          clear tb4 hB3
          intro c6' T6' hc2 hT2
          rintro mm f ds W4 ⟨rfl, m, hf12, rfl, hm, hB4, tb5⟩
          replace hc2 := hc2.out
          subst hc2
          replace hT2 := hT2.out
          subst hT2
          generalize hF : mrgF _ 0 _ _ = F
          simp only [mrg_hit, mrg_miss, mrg_end, Nat.reduceBEq, Nat.reduceAdd] at hF
          rw [hf12] at hF
          subst hF
          by_cases hlt4 : m < n
          · have x0m : (0 : Int) ≤ (m : Int) := by omega
            have x1m : (m : Int) < (n : Int) := by omega
            have q0m : decide ((m : Int) < (n : Int)) = true := decide_eq_true x1m
            have HE3 : Hid ((List.range (m + 1)).foldl (M.stepM i k) fc = M.stepM i k ((List.range m).foldl (M.stepM i k) fc) m) := Lib.hid (M.range_snoc _ _ _)
            generalize (List.range m).foldl (M.stepM i k) fc = fd at *
            have h1 := tb5.head (Nat.le_refl _) hlt2
            have h2 := (tb5.at hlt2 hlt4).1
            have h3 := tb5.head (Nat.le_refl _) hlt4
            have h4 := (tb5.at hlt4 hlt3).1
            have hSF : Hid (fd i m = false → M.stepM i k fd m = fd) := Lib.hid (fun h => by unfold M.stepM; rw [h]; rfl)
            have hSG : Hid (fd m k = false → M.stepM i k fd m = fd) := Lib.hid (fun h => by unfold M.stepM; rw [h, Bool.and_false]; rfl)
            have hST : Hid (fd i m = true → fd m k = true → M.stepM i k fd m = M.upd fd i k true) := Lib.hid (fun h h2 => by unfold M.stepM; rw [h, h2]; rfl)
            obtain ⟨r1, hr1⟩ : ∃ r, fd i m = r := ⟨_, rfl⟩
            obtain ⟨r2, hr2⟩ : ∃ r, fd m k = r := ⟨_, rfl⟩
            rw [hr1] at h2
            rw [hr2] at h4
            cases r1 with
            | false =>
              have HE4 := Lib.hid (HE3.out.trans (hSF.out hr1))
              clear hSF hSG hST HE3 hr1 hr2
              go_wp2_with fail
              exact ⟨_, rfl, rfl, n - (m + 1), by omega, trivial, m + 1, rfl, rfl, hlt4, hB4, by rw [HE4.out]; exact tb5⟩
            | true =>
            cases r2 with
            | false =>
              have HE4 := Lib.hid (HE3.out.trans (hSG.out hr2))
              clear hSF hSG hST HE3 hr1 hr2
              go_wp2_with fail
              exact ⟨_, rfl, rfl, n - (m + 1), by omega, trivial, m + 1, rfl, rfl, hlt4, hB4, by rw [HE4.out]; exact tb5⟩
            | true =>
              have HE4 := Lib.hid (HE3.out.trans (hST.out hr1 hr2))
              clear hSF hSG hST HE3 hr1 hr2
              obtain ⟨h5, h6⟩ := tb5.at hlt2 hlt3
              have htb2 := tb5.set hlt2 hlt3 true
              have hB5 := hB4.setCell (p := ⟨b i, k, none⟩) (tb5.lt hlt2).1 (.bool true)
              go_wp2_with fail
              exact ⟨_, rfl, rfl, n - (m + 1), by omega, trivial, m + 1, rfl, rfl, hlt4, hB5, by rw [HE4.out]; exact htb2⟩
          · obtain rfl : n = m := by omega
            have q0 : decide ((n : Int) < (n : Int)) = false := decide_eq_false (by omega)
            go_wp2_with fail
            exact ⟨_, rfl, rfl, n - (k + 1), by omega, trivial, k + 1, rfl, rfl, hlt3, hB4, by rw [HE2.out]; exact tb5⟩
        · obtain rfl : n = k := by omega
          have q0 : decide ((n : Int) < (n : Int)) = false := decide_eq_false (by omega)
          go_wp2_with fail
          exact ⟨_, rfl, rfl, n - (i + 1), by omega, trivial, i + 1, rfl, rfl, hlt2, hB3, by rw [HE1.out]; exact tb4⟩
      · obtain rfl : n = i := by omega
        have q0 : decide ((n : Int) < (n : Int)) = false := decide_eq_false (by omega)
        go_wp2_with fail
        exact ⟨_, rfl, rfl, n - (tt + 1), by omega, trivial, tt + 1, rfl, rfl, hlt, hB2, by rw [HE0.out]; exact tb3⟩
    · obtain rfl : n = tt := by omega
      have q0 : decide ((n : Int) < (n : Int)) = false := decide_eq_false (by omega)
      rw [HN.out] at HDEP
      go_wp2_with fail
      go_ret
      exact ⟨_, b, rfl, by rw [HDEP.out]; exact tb2, hB1⟩
end Go.Proofs.YtceobfigfmnacaaDoor
end

section
namespace Go.Proofs.YtceobfigfmnacaaDoor
open Go Go.RowKit
set_option maxRecDepth 100000
namespace M
def rdB (d : Tb) (lst : Nat → Bool) (i a b : Nat) : Bool := !(d a b) || lst b || inG d i b
def rdA (d : Tb) (lst : Nat → Bool) (n i a : Nat) : Bool := !(inG d i a) || (List.range n).all (rdB d lst i a)
theorem rdyT_all {d : Tb} {lst : Nat → Bool} {n i : Nat} (h : ∀ a, a < n → rdA d lst n i a = true) : rdyT d lst n i = true := by
  unfold rdyT
  rw [List.all_eq_true]
  exact fun a ha => h a (List.mem_range.1 ha)
theorem rdA_all {d : Tb} {lst : Nat → Bool} {n i a : Nat} (h : ∀ b, b < n → rdB d lst i a b = true) : rdA d lst n i a = true := by
  unfold rdA
  rw [Bool.or_eq_true, List.all_eq_true]
  exact .inr fun b hb => h b (List.mem_range.1 hb)
theorem rdA_out {d : Tb} {lst : Nat → Bool} {n i a : Nat} (h : inG d i a = false) : rdA d lst n i a = true := by unfold rdA; rw [h]; rfl
theorem rdyT_no {d : Tb} {lst : Nat → Bool} {n i a b : Nat} (ha : a < n) (hb : b < n) (hg : inG d i a = true) (h : rdB d lst i a b = false) : rdyT d lst n i = false := by
  unfold rdyT
  rw [List.all_eq_false]
  refine ⟨a, List.mem_range.2 ha, ?_⟩
  rw [hg, Bool.not_true, Bool.false_or, Bool.not_eq_true, List.all_eq_false]
  exact ⟨b, List.mem_range.2 hb, by rw [Bool.not_eq_true]; exact h⟩
theorem inG_own (d : Tb) (i : Nat) : inG d i i = true := by unfold inG; rw [decide_eq_true rfl]; rfl
theorem inG_ne {d : Tb} {i k : Nat} (h : k ≠ i) : inG d i k = (d i k && d k i) := by unfold inG; rw [decide_eq_false h]; rfl
end M
set_option maxHeartbeats 32000000 in
theorem rReady_ok (g gl n i base : Nat) (b : Nat → Nat) (d : M.Tb) (lst : Nat → Bool) (w : World) (h : TB w base g n n b d) (hl : BR w base gl n lst) (hi : i < n) (hn : n ≤ 1000000) :
    Calls Tryd.prog 34 #[.slice (some ⟨g, 0, none⟩) n n, .slice (some ⟨gl, 0, none⟩) n n, .int .i64 i] w fun e w' => e = .returned (.bool (M.rdyT d lst n i)) ∧ w = w' := by
  have xi0 : (0 : Int) ≤ (i : Int) := by omega
  have xi1 : (i : Int) < (n : Int) := by omega
  have hI := h.head (Nat.le_refl _) hi
  obtain ⟨res, hres⟩ : ∃ r, M.rdyT d lst n i = r := ⟨_, rfl⟩
  rw [hres]
  have HRES := Lib.hid hres
  clear hres
  go_enter Tryd.func34, Tryd.ntmps34
  go_wp2_with fail
  refine wp_loop_mrg [7, 8, 9, 10, 11, 12, 13, 14, 15, 16, 17, 18, 19, 20, 21, 22, 23, 24, 25, 26, 27, 28, 29, 30, 31, 32, 33, 34, 35, 36, 37, 38, 39, 40, 41, 42, 43, 44, 45, 46, 47, 48, 49, 50, 51, 52, 53, 54, 55, 56, 57, 58, 59, 60, 61, 62, 63, 64, 65, 66, 67, 68, 69, 70, 71, 72, 73, 74, 75, 76, 77, 78, 79, 80] (fun mm f ds W0 => ds = [] ∧ ∃ (a : Nat), f 7 = .int .i64 a ∧ mm = n - a ∧ a ≤ n ∧ W0 = w ∧ Hid (∀ a', a' < a → M.rdA d lst n i a' = true)) n ⟨rfl, 0, rfl, rfl, Nat.zero_le _, rfl, Lib.hid (fun a h => absurd h (by omega))⟩ ?_
  intro c1' T1' hc2 hT2
  rintro mm f ds W0 ⟨rfl, a, hf7, rfl, ha, rfl, HA⟩
  replace hc2 := hc2.out
  subst hc2
  replace hT2 := hT2.out
  subst hT2
  generalize hF : mrgF _ 0 _ _ = F
  simp only [mrg_hit, mrg_miss, mrg_nil, Nat.reduceBEq, Nat.reduceAdd] at hF
  rw [hf7] at hF
  subst hF
  by_cases hlt : a < n
  · have x0a : (0 : Int) ≤ (a : Int) := by omega
    have x1a : (a : Int) < (n : Int) := by omega
    have q0a : decide ((a : Int) < (n : Int)) = true := decide_eq_true x1a
    by_cases hai : a = i
    · have qa : ((a : Int) != (i : Int)) = false := by simpa using (by omega : (a : Int) = (i : Int))
      have HG : Hid (M.inG d i a = true) := Lib.hid (by rw [hai]; exact M.inG_own d i)
      have HG2 := HG
      clear hai
      clear HG
      have hund : undef = Value.tuple #[] := rfl
      go_wp2_with fail
      clear hund
      refine wp_loop_mrg [8, 37, 38, 39, 40, 41, 42, 43, 44, 45, 46, 47, 48, 49, 50, 51, 52, 53, 54, 55, 56, 57, 58, 59, 60, 61, 62, 63, 64, 65, 66, 67, 68, 69, 70, 71, 72, 73, 74, 75, 76, 77, 78, 79, 80] (fun mm f ds W1 => ds = [] ∧ ∃ (c : Nat), f 8 = .int .i64 c ∧ mm = n - c ∧ c ≤ n ∧ W1 = W0 ∧ Hid (∀ c', c' < c → M.rdB d lst i a c' = true)) n ⟨rfl, 0, rfl, rfl, Nat.zero_le _, rfl, Lib.hid (fun a h => absurd h (by omega))⟩ ?_
      intro c2' T2' hc2 hT2
      rintro mm f ds W1 ⟨rfl, c, hf8, rfl, hc, rfl, HC⟩
      replace hc2 := hc2.out
      subst hc2
      replace hT2 := hT2.out
      subst hT2
      generalize hF : mrgF _ 0 _ _ = F
      simp only [mrg_hit, mrg_miss, mrg_nil, Nat.reduceBEq, Nat.reduceAdd] at hF
      rw [hf8] at hF
      subst hF
      by_cases hltc : c < n
      · have x0c : (0 : Int) ≤ (c : Int) := by omega
        have x1c : (c : Int) < (n : Int) := by omega
        have q0c : decide ((c : Int) < (n : Int)) = true := decide_eq_true x1c
        have hAa := h.head (Nat.le_refl _) hlt
        have hAc := h.head (Nat.le_refl _) hltc
        have v1 := (h.at hlt hltc).1
        have v2 := (hl.at hltc).1
        have v4 := (h.at hltc hi).1
        have v5 := (h.at hi hltc).1
        obtain ⟨r1, hv1⟩ : ∃ r, d a c = r := ⟨_, rfl⟩
        obtain ⟨r2, hv2⟩ : ∃ r, lst c = r := ⟨_, rfl⟩
        obtain ⟨r4, hv4⟩ : ∃ r, d c i = r := ⟨_, rfl⟩
        obtain ⟨r5, hv5⟩ : ∃ r, d i c = r := ⟨_, rfl⟩
        rw [hv1] at v1
        rw [hv2] at v2
        rw [hv4] at v4
        rw [hv5] at v5
        cases r1 with
        | false =>
          have HC2 : Hid (∀ c', c' < c + 1 → M.rdB d lst i a c' = true) := Lib.hid (fun c' h' => by
            by_cases e : c' = c
            · subst e; unfold M.rdB; rw [hv1]; rfl
            · exact HC.out c' (by omega))
          clear HC hv1 hv2 hv4 hv5
          try clear hci
          have hund : undef = Value.tuple #[] := rfl
          go_wp2_with fail
          exact ⟨_, rfl, rfl, n - (c + 1), by omega, by trivial, c + 1, rfl, rfl, hltc, by trivial, HC2⟩
        | true =>
        cases r2 with
        | true =>
          have HC2 : Hid (∀ c', c' < c + 1 → M.rdB d lst i a c' = true) := Lib.hid (fun c' h' => by
            by_cases e : c' = c
            · subst e; unfold M.rdB; rw [hv2, Bool.or_true]; rfl
            · exact HC.out c' (by omega))
          clear HC hv1 hv2 hv4 hv5
          try clear hci
          have hund : undef = Value.tuple #[] := rfl
          go_wp2_with fail
          exact ⟨_, rfl, rfl, n - (c + 1), by omega, by trivial, c + 1, rfl, rfl, hltc, by trivial, HC2⟩
        | false =>
        by_cases hci : c = i
        · have qc : ((c : Int) != (i : Int)) = false := by simpa using (by omega : (c : Int) = (i : Int))
          have HC2 : Hid (∀ c', c' < c + 1 → M.rdB d lst i a c' = true) := Lib.hid (fun c' h' => by
            by_cases e : c' = c
            · subst e; unfold M.rdB; rw [hci, M.inG_own, Bool.or_true]
            · exact HC.out c' (by omega))
          clear HC hv1 hv2 hv4 hv5
          try clear hci
          have hund : undef = Value.tuple #[] := rfl
          go_wp2_with fail
          exact ⟨_, rfl, rfl, n - (c + 1), by omega, by trivial, c + 1, rfl, rfl, hltc, by trivial, HC2⟩
        have qc : ((c : Int) != (i : Int)) = true := by simpa using (by omega : ¬ (c : Int) = (i : Int))
        cases r4 with
        | false =>
          have HF : Hid (false = res) := Lib.hid (by rw [← HRES.out, M.rdyT_no hlt hltc HG2.out (by unfold M.rdB; rw [hv1, hv2, M.inG_ne hci, hv4, Bool.and_false]; rfl)])
          clear HRES HC HA HG2 hv1 hv2 hv4 hv5
          have hund : undef = Value.tuple #[] := rfl
          go_wp2_with fail
          go_ret
          exact ⟨by rw [← HF.out]; rfl, rfl⟩
        | true =>
        cases r5 with
        | false =>
          have HF : Hid (false = res) := Lib.hid (by rw [← HRES.out, M.rdyT_no hlt hltc HG2.out (by unfold M.rdB; rw [hv1, hv2, M.inG_ne hci, hv4, hv5]; rfl)])
          clear HRES HC HA HG2 hv1 hv2 hv4 hv5
          have hund : undef = Value.tuple #[] := rfl
          go_wp2_with fail
          go_ret
          exact ⟨by rw [← HF.out]; rfl, rfl⟩
        | true =>
          have HC2 : Hid (∀ c', c' < c + 1 → M.rdB d lst i a c' = true) := Lib.hid (fun c' h' => by
            by_cases e : c' = c
            · subst e; unfold M.rdB; rw [M.inG_ne hci, hv4, hv5, Bool.and_self, Bool.or_true]
            · exact HC.out c' (by omega))
          clear HC hv1 hv2 hv4 hv5
          try clear hci
          have hund : undef = Value.tuple #[] := rfl
          go_wp2_with fail
          exact ⟨_, rfl, rfl, n - (c + 1), by omega, by trivial, c + 1, rfl, rfl, hltc, by trivial, HC2⟩
      · obtain rfl : n = c := by omega
        have q0 : decide ((n : Int) < (n : Int)) = false := decide_eq_false (by omega)
        have HA2 : Hid (∀ a', a' < a + 1 → M.rdA d lst n i a' = true) := Lib.hid (fun a' h' => by
          by_cases e : a' = a
          · subst e; exact M.rdA_all HC.out
          · exact HA.out a' (by omega))
        clear HC HA
        go_wp2_with fail
        exact ⟨_, rfl, rfl, n - (a + 1), by omega, by trivial, a + 1, rfl, rfl, hlt, by trivial, HA2⟩
    have qa : ((a : Int) != (i : Int)) = true := by simpa using (by omega : ¬ (a : Int) = (i : Int))
    have hA := h.head (Nat.le_refl _) hlt
    have u1 := (h.at hlt hi).1
    have u2 := (h.at hi hlt).1
    obtain ⟨s1, hu1⟩ : ∃ r, d a i = r := ⟨_, rfl⟩
    obtain ⟨s2, hu2⟩ : ∃ r, d i a = r := ⟨_, rfl⟩
    rw [hu1] at u1
    rw [hu2] at u2
    cases s1 with
    | false =>
      have HA2 : Hid (∀ a', a' < a + 1 → M.rdA d lst n i a' = true) := Lib.hid (fun a' h' => by
        by_cases e : a' = a
        · subst e; exact M.rdA_out (by rw [M.inG_ne hai, hu1, Bool.and_false])
        · exact HA.out a' (by omega))
      clear HA hu1 hu2
      go_wp2_with fail
      exact ⟨_, rfl, rfl, n - (a + 1), by omega, by trivial, a + 1, rfl, rfl, hlt, by trivial, HA2⟩
    | true =>
    cases s2 with
    | false =>
      have HA2 : Hid (∀ a', a' < a + 1 → M.rdA d lst n i a' = true) := Lib.hid (fun a' h' => by
        by_cases e : a' = a
        · subst e; exact M.rdA_out (by rw [M.inG_ne hai, hu2, hu1, Bool.false_and])
        · exact HA.out a' (by omega))
      clear HA hu1 hu2
      go_wp2_with fail
      exact ⟨_, rfl, rfl, n - (a + 1), by omega, by trivial, a + 1, rfl, rfl, hlt, by trivial, HA2⟩
    | true =>
      have HG : Hid (M.inG d i a = true) := Lib.hid (by rw [M.inG_ne hai, hu1, hu2]; rfl)
      have HG2 := HG
      clear hai hu1 hu2
      clear HG
      have hund : undef = Value.tuple #[] := rfl
      go_wp2_with fail
      clear hund
      refine wp_loop_mrg [8, 37, 38, 39, 40, 41, 42, 43, 44, 45, 46, 47, 48, 49, 50, 51, 52, 53, 54, 55, 56, 57, 58, 59, 60, 61, 62, 63, 64, 65, 66, 67, 68, 69, 70, 71, 72, 73, 74, 75, 76, 77, 78, 79, 80] (fun mm f ds W1 => ds = [] ∧ ∃ (c : Nat), f 8 = .int .i64 c ∧ mm = n - c ∧ c ≤ n ∧ W1 = W0 ∧ Hid (∀ c', c' < c → M.rdB d lst i a c' = true)) n ⟨rfl, 0, rfl, rfl, Nat.zero_le _, rfl, Lib.hid (fun a h => absurd h (by omega))⟩ ?_
      intro c2' T2' hc2 hT2
      rintro mm f ds W1 ⟨rfl, c, hf8, rfl, hc, rfl, HC⟩
      replace hc2 := hc2.out
      subst hc2
      replace hT2 := hT2.out
      subst hT2
      generalize hF : mrgF _ 0 _ _ = F
      simp only [mrg_hit, mrg_miss, mrg_nil, Nat.reduceBEq, Nat.reduceAdd] at hF
      rw [hf8] at hF
      subst hF
      by_cases hltc : c < n
      · have x0c : (0 : Int) ≤ (c : Int) := by omega
        have x1c : (c : Int) < (n : Int) := by omega
        have q0c : decide ((c : Int) < (n : Int)) = true := decide_eq_true x1c
        have hAa := h.head (Nat.le_refl _) hlt
        have hAc := h.head (Nat.le_refl _) hltc
        have v1 := (h.at hlt hltc).1
        have v2 := (hl.at hltc).1
        have v4 := (h.at hltc hi).1
        have v5 := (h.at hi hltc).1
        obtain ⟨r1, hv1⟩ : ∃ r, d a c = r := ⟨_, rfl⟩
        obtain ⟨r2, hv2⟩ : ∃ r, lst c = r := ⟨_, rfl⟩
        obtain ⟨r4, hv4⟩ : ∃ r, d c i = r := ⟨_, rfl⟩
        obtain ⟨r5, hv5⟩ : ∃ r, d i c = r := ⟨_, rfl⟩
        rw [hv1] at v1
        rw [hv2] at v2
        rw [hv4] at v4
        rw [hv5] at v5
        cases r1 with
        | false =>
          have HC2 : Hid (∀ c', c' < c + 1 → M.rdB d lst i a c' = true) := Lib.hid (fun c' h' => by
            by_cases e : c' = c
            · subst e; unfold M.rdB; rw [hv1]; rfl
            · exact HC.out c' (by omega))
          clear HC hv1 hv2 hv4 hv5
          try clear hci
          have hund : undef = Value.tuple #[] := rfl
          go_wp2_with fail
          exact ⟨_, rfl, rfl, n - (c + 1), by omega, by trivial, c + 1, rfl, rfl, hltc, by trivial, HC2⟩
        | true =>
        cases r2 with
        | true =>
          have HC2 : Hid (∀ c', c' < c + 1 → M.rdB d lst i a c' = true) := Lib.hid (fun c' h' => by
            by_cases e : c' = c
            · subst e; unfold M.rdB; rw [hv2, Bool.or_true]; rfl
            · exact HC.out c' (by omega))
          clear HC hv1 hv2 hv4 hv5
          try clear hci
          have hund : undef = Value.tuple #[] := rfl
          go_wp2_with fail
          exact ⟨_, rfl, rfl, n - (c + 1), by omega, by trivial, c + 1, rfl, rfl, hltc, by trivial, HC2⟩
        | false =>
        by_cases hci : c = i
        · have qc : ((c : Int) != (i : Int)) = false := by simpa using (by omega : (c : Int) = (i : Int))
          have HC2 : Hid (∀ c', c' < c + 1 → M.rdB d lst i a c' = true) := Lib.hid (fun c' h' => by
            by_cases e : c' = c
            · subst e; unfold M.rdB; rw [hci, M.inG_own, Bool.or_true]
            · exact HC.out c' (by omega))
          clear HC hv1 hv2 hv4 hv5
          try clear hci
          have hund : undef = Value.tuple #[] := rfl
          go_wp2_with fail
          exact ⟨_, rfl, rfl, n - (c + 1), by omega, by trivial, c + 1, rfl, rfl, hltc, by trivial, HC2⟩
        have qc : ((c : Int) != (i : Int)) = true := by simpa using (by omega : ¬ (c : Int) = (i : Int))
        cases r4 with
        | false =>
          have HF : Hid (false = res) := Lib.hid (by rw [← HRES.out, M.rdyT_no hlt hltc HG2.out (by unfold M.rdB; rw [hv1, hv2, M.inG_ne hci, hv4, Bool.and_false]; rfl)])
          clear HRES HC HA HG2 hv1 hv2 hv4 hv5
          have hund : undef = Value.tuple #[] := rfl
          go_wp2_with fail
          go_ret
          exact ⟨by rw [← HF.out]; rfl, rfl⟩
        | true =>
        cases r5 with
        | false =>
          have HF : Hid (false = res) := Lib.hid (by rw [← HRES.out, M.rdyT_no hlt hltc HG2.out (by unfold M.rdB; rw [hv1, hv2, M.inG_ne hci, hv4, hv5]; rfl)])
          clear HRES HC HA HG2 hv1 hv2 hv4 hv5
          have hund : undef = Value.tuple #[] := rfl
          go_wp2_with fail
          go_ret
          exact ⟨by rw [← HF.out]; rfl, rfl⟩
        | true =>
          have HC2 : Hid (∀ c', c' < c + 1 → M.rdB d lst i a c' = true) := Lib.hid (fun c' h' => by
            by_cases e : c' = c
            · subst e; unfold M.rdB; rw [M.inG_ne hci, hv4, hv5, Bool.and_self, Bool.or_true]
            · exact HC.out c' (by omega))
          clear HC hv1 hv2 hv4 hv5
          try clear hci
          have hund : undef = Value.tuple #[] := rfl
          go_wp2_with fail
          exact ⟨_, rfl, rfl, n - (c + 1), by omega, by trivial, c + 1, rfl, rfl, hltc, by trivial, HC2⟩
      · obtain rfl : n = c := by omega
        have q0 : decide ((n : Int) < (n : Int)) = false := decide_eq_false (by omega)
        have HA2 : Hid (∀ a', a' < a + 1 → M.rdA d lst n i a' = true) := Lib.hid (fun a' h' => by
          by_cases e : a' = a
          · subst e; exact M.rdA_all HC.out
          · exact HA.out a' (by omega))
        clear HC HA
        go_wp2_with fail
        exact ⟨_, rfl, rfl, n - (a + 1), by omega, by trivial, a + 1, rfl, rfl, hlt, by trivial, HA2⟩
  · obtain rfl : n = a := by omega
    have q0 : decide ((n : Int) < (n : Int)) = false := decide_eq_false (by omega)
    have HF : Hid (true = res) := Lib.hid (by rw [← HRES.out, M.rdyT_all HA.out])
    go_wp2_with fail
    go_ret
    exact ⟨by rw [← HF.out]; rfl, rfl⟩
end Go.Proofs.YtceobfigfmnacaaDoor
end

section
namespace Go.Proofs.YtceobfigfmnacaaDoor
open Go Go.RowKit
set_option maxRecDepth 100000
namespace M
theorem scc_inG {R : List Nat} (h : Dg.Ok R) {v j : Nat} (hv : v < R.length) (hj : j < R.length) : (Dg.scc R v).testBit j = inG (dep R) v j := by
  rw [inG_eq h hv hj, Bool.eq_iff_iff, Dg.scc_bit h hv, Dg.grp_iff h]
def lstK (lst : Nat → Bool) (d : Tb) (v k : Nat) : Nat → Bool := fun j => lst j || (decide (j < k) && inG d v j)
theorem lstK_zero (lst : Nat → Bool) (d : Tb) (v : Nat) : lstK lst d v 0 = lst := by funext j; simp [lstK]
theorem lstK_no {lst : Nat → Bool} {d : Tb} {v k : Nat} (h : inG d v k = false) : lstK lst d v (k + 1) = lstK lst d v k := by
  funext j
  unfold lstK
  by_cases e : j = k
  · subst e; rw [h]; simp
  · rw [show decide (j < k + 1) = decide (j < k) from decide_eq_decide.2 (by omega)]
theorem lstK_yes {lst : Nat → Bool} {d : Tb} {v k : Nat} (h : inG d v k = true) : lstK lst d v (k + 1) = setB (lstK lst d v k) k := by
  funext j
  unfold lstK setB
  by_cases e : j = k
  · subst e; rw [if_pos rfl, h]; simp
  · rw [if_neg e, show decide (j < k + 1) = decide (j < k) from decide_eq_decide.2 (by omega)]
theorem lstK_own {lst : Nat → Bool} {d : Tb} {v k : Nat} (h : lst k = false) : lstK lst d v k k = false := by unfold lstK; rw [h]; simp
def mbs (l : List Mv) (d : Tb) (v k : Nat) : List Int := ((List.range k).filter (inG d v)).map (stv l)
theorem mbs_no {l : List Mv} {d : Tb} {v k : Nat} (h : inG d v k = false) : mbs l d v (k + 1) = mbs l d v k := by
  unfold mbs
  rw [List.range_succ, List.filter_append, List.filter_cons_of_neg (by rw [h]; decide)]
  simp
theorem mbs_yes {l : List Mv} {d : Tb} {v k : Nat} (h : inG d v k = true) : mbs l d v (k + 1) = mbs l d v k ++ [stv l k] := by
  unfold mbs
  rw [List.range_succ, List.filter_append, List.filter_cons_of_pos h]
  simp
theorem mbs_len (l : List Mv) (d : Tb) (v k : Nat) : (mbs l d v k).length ≤ k := by
  unfold mbs
  rw [List.length_map]
  have := List.length_filter_le (inG d v) (List.range k)
  simpa using this
theorem mbs_sts {l : List Mv} {R : List Nat} (h : Dg.Ok R) (hn : R.length = l.length) {v : Nat} (hv : v < l.length) : mbs l (dep R) v l.length = sts l (Dg.scc R v) := by
  rw [sts_eq, Dg.scc_els h (by omega)]
  unfold mbs
  rw [hn]
  congr 1
  exact List.filter_congr fun k hk => inG_eq h (by omega) (by have := List.mem_range.1 hk; omega)
theorem cntB_more {n v : Nat} {lst : Nat → Bool} {d : Tb} (hv : v < n) (hl : lst v = false) : cntB n lst < cntB n (lstK lst d v n) := by
  unfold cntB
  refine Bs.filter_lt (fun x hx => by unfold lstK; rw [hx]; rfl) ⟨v, List.mem_range.2 hv, hl, ?_⟩
  unfold lstK
  rw [decide_eq_true hv, inG_own, Bool.and_self, Bool.or_true]
theorem RG.go {R done left : List Nat} {S n : Nat} {lst : Nat → Bool} (h : Dg.Ok R) (hn : R.length = n) (r : RG R done left S) (hl : ∀ j, j < n → lst j = S.testBit j) (hc : cntB n lst < n) :
    ∃ v, v < n ∧ lst v = false ∧ rdyT (dep R) lst n v = true ∧ (∀ j, j < v → lst j = true ∨ rdyT (dep R) lst n j = false) ∧ (∀ k, k < n → inG (dep R) v k = true → lst k = false) ∧
      ∃ left' S', RG R (done ++ [v]) left' S' ∧ ∀ j, j < n → lstK lst (dep R) v n j = S'.testBit j := by
  subst hn
  obtain ⟨j, hj, hlj⟩ := cntB_lt hc
  obtain ⟨v, h1, h2, h3, h4⟩ := r.at h hj (by rw [← hl j hj]; exact hlj)
  unfold Dg.rfirst at h1
  rw [Dg.find_first List.pairwise_lt_range] at h1
  obtain ⟨-, h5, h6⟩ := h1
  rw [Bool.and_eq_true, Bool.not_eq_true'] at h5
  refine ⟨v, h2, by rw [hl v h2]; exact h5.1, by rw [rdyT_eq h h2 hl]; exact h5.2, fun u hu => ?_, fun k hk hg => ?_, _, _, h4, fun k hk => ?_⟩
  · have hul : u < R.length := by omega
    rw [hl u hul, rdyT_eq h hul hl]
    cases hs : S.testBit u with
    | true => exact .inl rfl
    | false =>
      right
      cases hr : Dg.rdy R S u with
      | false => rfl
      | true =>
        have := h6 u (by simpa using hul) (by rw [hs, hr]; rfl)
        omega
  · rw [hl k hk]
    exact h3 k (by rw [scc_inG h h2 hk]; exact hg)
  · unfold lstK
    rw [Nat.testBit_or, scc_inG h h2 hk, hl k hk, decide_eq_true hk, Bool.true_and]
end M
structure RGS (w W : World) (g gl n base : Nat) (b : Nat → Nat) (d : M.Tb) (lst : Nat → Bool) (vO : Value) (os : List SLc) : Prop where
  bel : Below w.heap.size w W
  tb : TB W w.heap.size g n n b d
  bl : BR W w.heap.size gl n lst
  lo : LO W base vO os
section
variable {w W W' : World} {g gl n base : Nat} {b : Nat → Nat} {d : M.Tb} {lst : Nat → Bool} {vO : Value} {os : List SLc}
theorem RGS.next (h : RGS w W g gl n base b d lst vO os) (hb : Below W.heap.size W W') : RGS w W' g gl n base b d lst vO os := ⟨after_ h.bel hb, h.tb.next hb, own_below h.bl hb, h.lo.below hb⟩
theorem RGS.lts (h : RGS w W g gl n base b d lst vO os) : g < W.heap.size ∧ gl < W.heap.size ∧ (∀ i, i < n → b i < W.heap.size) ∧ (∀ r, vO.ownBlock = some r → r < W.heap.size) ∧ ∀ s ∈ os, ∀ r, (Value.slice s.A s.xs.length s.c).ownBlock = some r → r < W.heap.size :=
  ⟨h.tb.glt.2, (own_lt h.bl).2, fun _ hi => (h.tb.lt hi).2, fun r e => (h.lo.outer.lt r e).2, fun s hs r e => ((h.lo.inner s hs).lt r e).2⟩
theorem own_nn (v : Value) : v.ownBlock = none ∨ v.ownBlock ≠ none := by cases v.ownBlock <;> simp
theorem RGS.grow {row : Option Nat} {C : Nat} (h : RGS w W g gl n base b d lst vO os) (hg : W.grownBy W' row) (hr : ∀ r, row = some r → C ≤ r) (hC : w.heap.size ≤ C) (hl : g < C ∧ gl < C ∧ (∀ i, i < n → b i < C) ∧ (∀ r, vO.ownBlock = some r → r < C) ∧ ∀ s ∈ os, ∀ r, (Value.slice s.A s.xs.length s.c).ownBlock = some r → r < C) : RGS w W' g gl n base b d lst vO os := by
  obtain ⟨h1, h2, h3, h4, h5⟩ := hl
  refine ⟨h.bel.grown hg h.bel.size (fun k e => Nat.le_trans hC (hr k e)), h.tb.kept hg (fun e => by have := hr _ e; omega) (fun i hi e => by have := hr _ e; have := h3 i hi; omega), h.bl.kept hg (.inr (fun e => by have h9 : C ≤ gl := hr gl e.symm; omega)), ?_⟩
  cases row with
  | none => exact ⟨h.lo.outer.kept hg (own_nn _), fun s hs => (h.lo.inner s hs).kept hg (own_nn _)⟩
  | some r =>
    have hrr := hr r rfl
    exact h.lo.off hg (fun e => by have := h4 r e; omega) (fun s hs e => by have := h5 s hs r e; omega)
theorem RGS.push (h : RGS w W g gl n base b d lst vO os) {v' : Value} {s : SLc} (hi : W.ownsRow base 3 1 (.slice s.A s.xs.length s.c) s.xs.length (flat 1 icell s.xs)) (hb : Below w.heap.size w W') (ho : W'.ownsRow base 39 1 v' (os.length + 1) (flat 1 slcell (os ++ [s]))) (hg : W.grownBy W' vO.ownBlock) : RGS w W' g gl n base b d lst v' (os ++ [s]) := by
  have hne : ∀ {x : Nat} {e : TypeId} {bb : Nat} {xs : List Value}, W.ownsRow bb e 1 (.slice (some ⟨x, 0, none⟩) n n) n xs → e ≠ 39 → vO.ownBlock ≠ some x := fun {x e bb xs} h1 h2 => by
    rcases own_ne h1 h.lo.outer h2 with h3 | h3
    · cases h3
    · exact fun e2 => h3 e2.symm
  exact ⟨hb, h.tb.kept hg (hne h.tb.outer (by decide)) (fun i hi => hne (h.tb.row i hi) (by decide)), h.bl.kept hg (own_ne h.bl h.lo.outer (by decide)), h.lo.push hi ho hg⟩
theorem RGS.list (h : RGS w W g gl n base b d lst vO os) (hs : w.heap.size ≤ gl ∧ g < gl ∧ gl < base ∧ ∀ i, i < n → b i < gl) {k : Nat} (hk : k < n) : RGS w (W.setCell ⟨gl, k, none⟩ (.bool true)) g gl n base b d (M.setB lst k) vO os :=
  ⟨h.bel.setCell (p := ⟨gl, k, none⟩) hs.1 _, h.tb.kept (grown_set W gl k (.bool true)) (fun e => by have e2 : gl = g := Option.some.inj e; omega) (fun i hi e => by have e2 : gl = b i := Option.some.inj e; have := hs.2.2.2 i hi; omega), h.bl.set hk true, h.lo.far (grown_set W gl k (.bool true)) hs.2.2.1⟩
end
set_option maxHeartbeats 32000000 in
theorem rGroups_ok (PA : Option Addr) (pc np : Nat) (ps : List P5) (LA : Option Addr) (lc : Nat) (l : List Mv) (w : World) (hnp : np = ps.length) (hP : Sl 5 p5cell w w.heap.size PA ps) (hL : Sl 6 mvcell w w.heap.size LA l) (hl : l.length ≤ 9223372036854775806) (hi : M.Ints ps l) :
    Calls Tryd.prog 16 #[.slice PA np pc, .slice LA l.length lc] w fun e w' => (∃ er, M.errIs ps l er ∧ ((er ≠ 0 ∧ e = .returned (.tuple #[.slice none 0 0, .int .i64 er])) ∨ (er = 0 ∧ ∃ A c ls, e = .returned (.tuple #[.slice A ls.length c, .int .i64 0]) ∧ LO w' w.heap.size (.slice A ls.length c) ls ∧ ls.map (·.xs) = M.grps ps l))) ∧ Below w.heap.size w w' := by
  obtain ⟨ib, hib, hzb0, hzb1, hzb2⟩ := info_parts blInfo
  have Hib := Lib.hid hib; have Hzb0 := Lib.hid hzb0; have Hzb1 := Lib.hid hzb1; have Hzb2 := Lib.hid hzb2
  clear hib hzb0 hzb1 hzb2
  obtain ⟨ii, hii, hzi0, hzi1, hzi2⟩ := info_parts inInfo
  have Hii := Lib.hid hii; have Hzi0 := Lib.hid hzi0; have Hzi1 := Lib.hid hzi1; have Hzi2 := Lib.hid hzi2
  clear hii hzi0 hzi1 hzi2
  obtain ⟨il, hil, hzl0, hzl1, hzl2⟩ := info_parts slInfo
  have Hil := Lib.hid hil; have Hzl0 := Lib.hid hzl0; have Hzl1 := Lib.hid hzl1; have Hzl2 := Lib.hid hzl2
  clear hil hzl0 hzl1 hzl2
  have kE := rError_ok PA pc np ps LA lc l w hnp hL hl
  have KD := Lib.hid (fun (u : World) (hu : Below w.heap.size w u) (h1 : ps.length ≤ 20000) (h2 : l.length ≤ 512) => rDepends_ok PA pc np ps LA lc l u hnp ((hP.below hu).more hu.size) ((hL.below hu).more hu.size) (by omega) (by omega) hi)
  have HL : Hid (∀ W, Below w.heap.size w W → Sl 6 mvcell W w.heap.size LA l) := Lib.hid (fun W hb => hL.below hb)
  clear hnp hP hi hL
  go_enter Tryd.func16, Tryd.ntmps16
  go_wp2_with fail
  refine kE.mono ?_
  rintro e w2 ⟨⟨er, rfl, her⟩, hb2⟩
  clear kE
  have HER := Lib.hid her
  by_cases he0 : er = 0
  case neg =>
    have q1 : (er != 0) = true := by simpa using he0
    have HE0 := Lib.hid he0
    clear her he0
    go_wp2_with fail
    go_ret2
    exact ⟨⟨er, HER.out, .inl ⟨HE0.out, rfl⟩⟩, hb2⟩
  case pos =>
    subst he0
    have hok : M.mvsOk l ∧ ps.length ≤ 20000 := by
      rcases her with ⟨h1, h2, -⟩ | ⟨-, -, h⟩ | ⟨-, h⟩
      · exact ⟨h1, h2⟩
      · cases h
      · cases h
    have hR := M.rows_ok (ps := ps) hok.1.1
    have hl512 := hok.1.1
    have kD := KD.out w2 hb2 hok.2 hl512
    have HGR : Hid (M.grps ps l = (Dg.ord (M.rows ps l)).map fun v => M.sts l (Dg.scc (M.rows ps l) v)) := Lib.hid rfl
    have HMS : Hid (∀ v, v < l.length → M.mbs l (M.dep (M.rows ps l)) v l.length = M.sts l (Dg.scc (M.rows ps l) v)) := Lib.hid (fun v hv => M.mbs_sts hR (M.rows_len ps l) hv)
    have HGO := Lib.hid (fun (done left : List Nat) (S : Nat) (lst : Nat → Bool) (r : M.RG (M.rows ps l) done left S) (hl : ∀ j, j < l.length → lst j = S.testBit j) (hc : M.cntB l.length lst < l.length) => M.RG.go hR (M.rows_len ps l) r hl hc)
    have HFL := Lib.hid (fun (done left : List Nat) (S : Nat) (lst : Nat → Bool) (r : M.RG (M.rows ps l) done left S) (hl : ∀ j, j < l.length → lst j = S.testBit j) (hc : ¬ M.cntB l.length lst < l.length) => M.RG.full r (fun j hj => by rw [M.rows_len] at hj; rw [← hl j hj]; exact M.cntB_all hc j hj))
    have HST := Lib.hid (M.RG.start hR)
    have HOL : Hid ((Dg.ord (M.rows ps l)).length ≤ 512) := Lib.hid (by
      have h1 := (Dg.ord_perm hR).length_eq
      have h2 := Dg.leads_len (M.rows ps l)
      have h3 := M.rows_len ps l
      omega)
    clear her hok KD hR
    go_wp2_with fail
    refine kD.mono ?_
    rintro e w3 ⟨g, b, rfl, htb, hb3⟩
    clear kD
    obtain ⟨n, hn⟩ : ∃ n, l.length = n := ⟨_, rfl⟩
    have HN := Lib.hid hn
    rw [hn] at hl512 htb HMS HGO HFL ⊢
    clear hn
    generalize M.dep (M.rows ps l) = d at *
    generalize M.rows ps l = R at *
    have B3 := after_ hb2 hb3
    have hgf := htb.far
    have hgl := htb.glt
    have HBL : Hid (∀ i, i < n → b i < w3.heap.size) := Lib.hid (fun i hi => (htb.lt hi).2)
    go_wp2_with (at_make; refine wpList_make_full _ rfl _ _ 54 rfl w3.heap.size 4 ib _ 1 Tryd.underlying54 Hib.out Hzb0.out Hzb1.out .i64 .i64 _ _ n rfl rfl rfl rfl (by rw [Hzb2.out]; omega) (by unfold maxLen; omega) (Nat.le_refl _) ?_; intro w4 hown4 hg4)
    have em := made_flat (cell := blc) (size := 1) (x0 := false) (by decide) (Value.bool false).cells rfl n
    rw [em, fnl_rep] at hown4
    clear em
    have B4 : Below w.heap.size w w4 := B3.grown hg4 B3.size (by simp)
    have hw24 : w2.heap.size ≤ w3.heap.size := hb3.size
    have hw4 : w3.heap.size < w4.heap.size := (own_lt hown4).2
    have htb4 : TB w4 w.heap.size g n n b d := by
      have h1 := htb.kept hg4 (by simp) (by simp)
      exact ⟨own_base h1.outer hb2.size, fun i hi => own_base (h1.row i hi) hb2.size, h1.mono, h1.far⟩
    have gs0 : RGS w w4 g w3.heap.size n w4.heap.size b d (fun _ => false) (.slice none 0 0) [] := ⟨B4, htb4, own_base hown4 B3.size, LO.none_ _ _⟩
    have HS : Hid (w.heap.size ≤ w3.heap.size ∧ g < w3.heap.size ∧ w3.heap.size < w4.heap.size ∧ ∀ i, i < n → b i < w3.heap.size) := Lib.hid ⟨B3.size, hgl.2, hw4, HBL.out⟩
    clear hown4 hg4 htb4 htb hgf hgl HBL hw24 B3 hb2 hb3 hw4
    generalize w3.heap.size = gl at *
    obtain ⟨base, hbase⟩ : ∃ base, w4.heap.size = base := ⟨_, rfl⟩
    have HBW : Hid (base ≤ w4.heap.size) := Lib.hid (by omega)
    rw [hbase] at gs0 HS
    clear hbase
    refine wp_loop_mrg [9, 10, 11, 12, 13, 26, 27, 28, 29, 30, 31, 32, 33, 34, 35, 36, 37, 38, 39, 40, 41, 42, 43, 44, 45, 46, 47, 48, 49, 50, 51, 52, 53, 54, 55, 56, 57, 58, 59, 60, 61, 62, 63, 64, 65, 66, 67, 68, 69, 70, 71, 72, 73, 74, 75, 76, 77, 78, 79, 80, 81, 82, 83, 84, 85, 86] (fun mm f ds W0 => ds = [] ∧ ∃ (dn left : List Nat) (S : Nat) (lst : Nat → Bool) (Ao : Option Addr) (co : Nat) (os : List SLc), f 10 = .int .i64 (M.cntB n lst) ∧ f 9 = .slice Ao os.length co ∧ mm = n - M.cntB n lst ∧ RGS w W0 g gl n base b d lst (.slice Ao os.length co) os ∧ base ≤ W0.heap.size ∧ Hid (M.RG R dn left S ∧ (∀ j, j < n → lst j = S.testBit j) ∧ os.map (·.xs) = dn.map (fun v => M.sts l (Dg.scc R v)))) n ?h0 ?_
    case h0 => exact ⟨rfl, [], Dg.leads R, 0, fun _ => false, none, 0, [], by rw [show M.cntB n (fun _ => false) = 0 by simp [M.cntB]]; rfl, rfl, by rw [show M.cntB n (fun _ => false) = 0 by simp [M.cntB]]; rfl, gs0, HBW.out, Lib.hid ⟨HST.out, fun j _ => by rw [Nat.zero_testBit], rfl⟩⟩
    clear gs0 HST
    intro c1' T1' hc2 hT2
    rintro mm f ds W0 ⟨rfl, dn, left, S, lst, Ao, co, os, hf10, hf9, rfl, gs, hbw, HI⟩
    replace hc2 := hc2.out
    subst hc2
    replace hT2 := hT2.out
    subst hT2
    generalize hF : mrgF _ 0 _ _ = F
    simp only [mrg_hit, mrg_miss, mrg_end, Nat.reduceBEq, Nat.reduceAdd] at hF
    rw [hf10, hf9] at hF
    subst hF
    have HCN := Lib.hid (M.cntB_le n lst)
    by_cases hlt : M.cntB n lst < n
    · obtain ⟨v, hv, hlv, hrv, hbf, hmb, left', S', hrg, hls⟩ := HGO.out dn left S lst HI.out.1 HI.out.2.1 hlt
      have HLV := Lib.hid hlv; have HRV := Lib.hid hrv; have HBF := Lib.hid hbf; have HMB := Lib.hid hmb; have HNX := Lib.hid (And.intro hrg hls)
      have HOS : Hid (os.map (·.xs) = dn.map (fun v => M.sts l (Dg.scc R v))) := Lib.hid HI.out.2.2
      have HRG := Lib.hid HI.out
      clear hlv hrv hbf hmb hrg hls HI
      obtain ⟨mn, hmn⟩ : ∃ mn, M.cntB n lst = mn := ⟨_, rfl⟩
      have HMN := Lib.hid hmn
      rw [hmn] at hlt ⊢
      clear hmn
      have x1 : (mn : Int) < (n : Int) := by omega
      have q0 : decide ((mn : Int) < (n : Int)) = true := decide_eq_true x1
      go_wp2_with fail
      have HBA := Lib.hid (fun (a : Nat) (ha : a < n) => (gs.bl.at ha).1)
      have HKR := Lib.hid (fun (a : Nat) (ha : a < n) => rReady_ok g gl n a w.heap.size b d lst W0 gs.tb gs.bl ha (by omega))
      refine wp_loop_mrg [11, 30, 31, 32, 33, 34, 35, 36, 37, 38, 39, 40, 41, 42] (fun mm f ds W1 => ds = [] ∧ ∃ (a : Nat), f 11 = .int .i64 a ∧ mm = v - a ∧ a ≤ v ∧ W1 = W0) v ⟨rfl, 0, rfl, rfl, Nat.zero_le _, rfl⟩ ?_
      intro c2' T2' hc2 hT2
      rintro mm f ds W1 ⟨rfl, a, hf11, rfl, ha, hW1⟩
      replace hc2 := hc2.out
      subst hc2
      replace hT2 := hT2.out
      subst hT2
      generalize hF : mrgF _ 0 _ _ = F
      simp only [mrg_hit, mrg_miss, mrg_end, Nat.reduceBEq, Nat.reduceAdd] at hF
      rw [hf11] at hF
      subst hF
      subst hW1
      have hc := HBA.out a (by omega)
      have kR := HKR.out a (by omega)
      have x2 : (0 : Int) ≤ (a : Int) := by omega
      have x3 : (a : Int) < (n : Int) := by omega
      by_cases hav : a < v
      · obtain ⟨r1, hr1⟩ : ∃ r, lst a = r := ⟨_, rfl⟩
        rw [hr1] at hc
        cases r1 with
        | true =>
          clear hr1 kR
          have hund : undef = Value.tuple #[] := rfl
          go_wp2_with fail
          exact ⟨_, rfl, rfl, v - (a + 1), by omega, by trivial, a + 1, rfl, rfl, hav, by trivial⟩
        | false =>
          have hrf : M.rdyT d lst n a = false := by
            rcases HBF.out a hav with h | h
            · rw [hr1] at h; cases h
            · exact h
          rw [hrf] at kR
          clear hrf hr1
          go_wp2_with fail
          refine kR.mono ?_
          rintro e w5 ⟨rfl, rfl⟩
          go_wp2_with fail
          exact ⟨_, rfl, rfl, v - (a + 1), by omega, by trivial, a + 1, rfl, rfl, hav, by trivial⟩
      · obtain rfl : v = a := by omega
        rw [HLV.out] at hc
        rw [HRV.out] at kR
        clear hav ha
        go_wp2_with fail
        refine kR.mono ?_
        rintro e w5 ⟨rfl, rfl⟩
        clear hc HBA HKR
        go_wp2_with fail
        have gk0 : RGS w W1 g gl n base b d (M.lstK lst d v 0) (.slice Ao os.length co) os := by rw [M.lstK_zero]; exact gs
        have HMN0 : Hid (Value.int IntKind.i64 (mn : Int) = .int .i64 (M.cntB n (M.lstK lst d v 0) : Nat)) := Lib.hid (by rw [M.lstK_zero, HMN.out])
        have HLT := Lib.hid gs.lts
        clear gs
        refine wp_loop_mrg [10, 12, 13, 43, 44, 45, 46, 47, 48, 49, 50, 51, 52, 53, 54, 55, 56, 57, 58, 59, 60, 61, 62, 63, 64, 65, 66, 67, 68, 69, 70, 71, 72, 73, 74, 75, 76, 77, 78, 79, 80, 81, 82] (fun mm f ds W2 => ds = [] ∧ ∃ (k : Nat) (As : Option Addr) (cs : Nat), f 13 = .int .i64 k ∧ f 12 = .slice As (M.mbs l d v k).length cs ∧ f 10 = .int .i64 (M.cntB n (M.lstK lst d v k) : Nat) ∧ mm = n - k ∧ k ≤ n ∧ RGS w W2 g gl n base b d (M.lstK lst d v k) (.slice Ao os.length co) os ∧ W2.ownsRow W1.heap.size 3 1 (.slice As (M.mbs l d v k).length cs) (M.mbs l d v k).length (flat 1 icell (M.mbs l d v k)) ∧ W1.heap.size ≤ W2.heap.size) n ⟨rfl, 0, none, 0, rfl, rfl, HMN0.out, rfl, Nat.zero_le _, gk0, own_nil _ _ _ _ _, Nat.le_refl _⟩ ?_
        clear gk0 HMN0
        intro c3' T3' hc2 hT2
        rintro mm f ds W2 ⟨rfl, k, As, cs, hf13, hf12, hf10, rfl, hk, gk, hrow, hW12⟩
        replace hc2 := hc2.out
        subst hc2
        replace hT2 := hT2.out
        subst hT2
        generalize hF : mrgF _ 0 _ _ = F
        simp only [mrg_hit, mrg_miss, mrg_end, Nat.reduceBEq, Nat.reduceAdd] at hF
        rw [hf13, hf12, hf10] at hF
        subst hF
        by_cases hltk : k < n
        · have x0k : (0 : Int) ≤ (k : Int) := by omega
          have x1k : (k : Int) < (n : Int) := by omega
          have q0k : decide ((k : Int) < (n : Int)) = true := decide_eq_true x1k
          have hhv := gk.tb.head (Nat.le_refl _) hv
          have hhk := gk.tb.head (Nat.le_refl _) hltk
          have v1 := (gk.tb.at hv hltk).1
          have v2 := (gk.tb.at hltk hv).1
          obtain ⟨lm, hlm, hlmb, m0, -⟩ := (HL.out W2 gk.bel).mv6 (show k < l.length by rw [HN.out]; exact hltk)
          rw [M.stv_at] at m0
          obtain ⟨r1, hr1⟩ : ∃ r, d v k = r := ⟨_, rfl⟩
          obtain ⟨r2, hr2⟩ : ∃ r, d k v = r := ⟨_, rfl⟩
          rw [hr1] at v1
          rw [hr2] at v2
          obtain ⟨q, hq⟩ : ∃ q, M.cntB n (M.lstK lst d v k) = q := ⟨_, rfl⟩
          have HQ := Lib.hid hq
          rw [hq]
          have hqn : q ≤ n := by rw [← hq]; exact M.cntB_le _ _
          clear hq
          have hbl := M.mbs_len l d v k
          subst hlm
          by_cases hkv : k = v
          · have HG : Hid (M.inG d v k = true) := Lib.hid (by rw [hkv]; exact M.inG_own d v)
            have qc : ((k : Int) == (v : Int)) = true := by simpa using (by omega : (k : Int) = (v : Int))
            clear hkv
            have HLY : Hid (M.lstK lst d v (k + 1) = M.setB (M.lstK lst d v k) k) := Lib.hid (M.lstK_yes HG.out)
            have HMY : Hid (M.mbs l d v (k + 1) = M.mbs l d v k ++ [M.stv l k]) := Lib.hid (M.mbs_yes HG.out)
            have HCY : Hid (Value.int IntKind.i64 ((q : Int) + 1) = .int .i64 (M.cntB n (M.lstK lst d v (k + 1)) : Nat)) := Lib.hid (by rw [HLY.out, M.cntB_set (M.lstK_own (HMB.out k hltk HG.out)) hltk, HQ.out]; rfl)
            clear HG hr1 hr2 HQ
            try clear hkv
            generalize M.stv l k = sx at *
            generalize M.lstK lst d v k = lk at *
            generalize M.mbs l d v k = ms at *
            have HGB := Lib.hid (fun (W : World) (hg : W2.grownBy W (Value.slice As ms.length cs).ownBlock) => gk.grow (C := W1.heap.size) hg (fun r e => (hrow.lt r e).1) (Nat.le_trans HS.out.1 (Nat.le_of_lt HLT.out.2.1)) HLT.out)
            have hund : undef = Value.tuple #[] := rfl
            go_wp2_with (at_builtin; refine wpList_push (w0 := w) (cell := icell) (y := sx) rfl _ _ _ rfl W1.heap.size w.heap.size 3 ii _ 8 Tryd.underlying39 Hii.out Hzi0.out Hzi1.out Hzi2.out rfl (by decide) _ _ _ rfl hrow _ _ rfl _ rfl (fun _ => rfl) (by unfold maxLen; omega) (by omega) hW12 (Nat.le_trans HS.out.1 (Nat.le_of_lt HLT.out.2.1)) gk.bel ?_; intro v' w8 hown8 hb8 hg8; obtain ⟨g8, cap8, rfl⟩ := ownsRow_succ hown8; have g9 := HGB.out _ hg8; obtain ⟨c9, f9⟩ := g9.bl.at hltk)
            have g10 := g9.list HS.out hltk
            have hlt8 := own_lt hown8
            have hgl8 := HLT.out.2.1
            have hr10 := World.ownsRow.kept hown8 (grown_set w8 gl k (.bool true)) (.inr (fun e => by have e2 : g8 = gl := Option.some.inj e; omega))
            refine ⟨_, rfl, rfl, n - (k + 1), by omega, by trivial, k + 1, some ⟨g8, 0, none⟩, cap8, rfl, ?_, HCY.out, rfl, hltk, ?_, ?_, ?_⟩
            · rw [HMY.out, List.length_append]; rfl
            · rw [HLY.out]; exact g10
            · rw [HMY.out, List.length_append]; exact hr10
            · exact Nat.le_trans hW12 (Nat.le_trans hg8.size (by simp))
          have qc : ((k : Int) == (v : Int)) = false := by simpa using (by omega : ¬ (k : Int) = (v : Int))
          cases r1 with
          | false =>
            have HG : Hid (M.inG d v k = false) := Lib.hid (by rw [M.inG_ne hkv, hr1, Bool.false_and])
            have HLY : Hid (M.lstK lst d v (k + 1) = M.lstK lst d v k) := Lib.hid (M.lstK_no HG.out)
            have HMY : Hid (M.mbs l d v (k + 1) = M.mbs l d v k) := Lib.hid (M.mbs_no HG.out)
            clear HG hr1 hr2 hkv
            have hund : undef = Value.tuple #[] := rfl
            go_wp2_with fail
            refine ⟨_, rfl, rfl, n - (k + 1), by omega, by trivial, k + 1, As, cs, rfl, ?_, ?_, rfl, hltk, ?_, ?_, hW12⟩
            · rw [HMY.out]; rfl
            · rw [HLY.out, HQ.out]; rfl
            · rw [HLY.out]; exact gk
            · rw [HMY.out]; exact hrow
          | true =>
          cases r2 with
          | false =>
            have HG : Hid (M.inG d v k = false) := Lib.hid (by rw [M.inG_ne hkv, hr1, hr2, Bool.and_false])
            have HLY : Hid (M.lstK lst d v (k + 1) = M.lstK lst d v k) := Lib.hid (M.lstK_no HG.out)
            have HMY : Hid (M.mbs l d v (k + 1) = M.mbs l d v k) := Lib.hid (M.mbs_no HG.out)
            clear HG hr1 hr2 hkv
            have hund : undef = Value.tuple #[] := rfl
            go_wp2_with fail
            refine ⟨_, rfl, rfl, n - (k + 1), by omega, by trivial, k + 1, As, cs, rfl, ?_, ?_, rfl, hltk, ?_, ?_, hW12⟩
            · rw [HMY.out]; rfl
            · rw [HLY.out, HQ.out]; rfl
            · rw [HLY.out]; exact gk
            · rw [HMY.out]; exact hrow
          | true =>
            have HG : Hid (M.inG d v k = true) := Lib.hid (by rw [M.inG_ne hkv, hr1, hr2]; rfl)
            have HLY : Hid (M.lstK lst d v (k + 1) = M.setB (M.lstK lst d v k) k) := Lib.hid (M.lstK_yes HG.out)
            have HMY : Hid (M.mbs l d v (k + 1) = M.mbs l d v k ++ [M.stv l k]) := Lib.hid (M.mbs_yes HG.out)
            have HCY : Hid (Value.int IntKind.i64 ((q : Int) + 1) = .int .i64 (M.cntB n (M.lstK lst d v (k + 1)) : Nat)) := Lib.hid (by rw [HLY.out, M.cntB_set (M.lstK_own (HMB.out k hltk HG.out)) hltk, HQ.out]; rfl)
            clear HG hr1 hr2 HQ
            try clear hkv
            generalize M.stv l k = sx at *
            generalize M.lstK lst d v k = lk at *
            generalize M.mbs l d v k = ms at *
            have HGB := Lib.hid (fun (W : World) (hg : W2.grownBy W (Value.slice As ms.length cs).ownBlock) => gk.grow (C := W1.heap.size) hg (fun r e => (hrow.lt r e).1) (Nat.le_trans HS.out.1 (Nat.le_of_lt HLT.out.2.1)) HLT.out)
            have hund : undef = Value.tuple #[] := rfl
            go_wp2_with (at_builtin; refine wpList_push (w0 := w) (cell := icell) (y := sx) rfl _ _ _ rfl W1.heap.size w.heap.size 3 ii _ 8 Tryd.underlying39 Hii.out Hzi0.out Hzi1.out Hzi2.out rfl (by decide) _ _ _ rfl hrow _ _ rfl _ rfl (fun _ => rfl) (by unfold maxLen; omega) (by omega) hW12 (Nat.le_trans HS.out.1 (Nat.le_of_lt HLT.out.2.1)) gk.bel ?_; intro v' w8 hown8 hb8 hg8; obtain ⟨g8, cap8, rfl⟩ := ownsRow_succ hown8; have g9 := HGB.out _ hg8; obtain ⟨c9, f9⟩ := g9.bl.at hltk)
            have g10 := g9.list HS.out hltk
            have hlt8 := own_lt hown8
            have hgl8 := HLT.out.2.1
            have hr10 := World.ownsRow.kept hown8 (grown_set w8 gl k (.bool true)) (.inr (fun e => by have e2 : g8 = gl := Option.some.inj e; omega))
            refine ⟨_, rfl, rfl, n - (k + 1), by omega, by trivial, k + 1, some ⟨g8, 0, none⟩, cap8, rfl, ?_, HCY.out, rfl, hltk, ?_, ?_, ?_⟩
            · rw [HMY.out, List.length_append]; rfl
            · rw [HLY.out]; exact g10
            · rw [HMY.out, List.length_append]; exact hr10
            · exact Nat.le_trans hW12 (Nat.le_trans hg8.size (by simp))
        · obtain rfl : n = k := by omega
          have q0 : decide ((n : Int) < (n : Int)) = false := decide_eq_false (by omega)
          have HCS : Hid (#[Value.slice As (M.mbs l d v n).length cs].toList = (List.range 1).map (slcell ⟨As, cs, M.mbs l d v n⟩)) := Lib.hid (by simp [slcell])
          have HOM : Hid (os.length ≤ 512) := Lib.hid (by
            have h1 := congrArg List.length HOS.out
            have h2 := congrArg List.length HRG.out.1.eq
            have h3 := HOL.out
            simp at h1 h2
            omega)
          have HMS2 := Lib.hid (HMS.out v hv)
          generalize M.mbs l d v n = ms at *
          have hbW := Nat.le_trans hbw hW12
          go_wp2_with (at_builtin; refine wpList_push (w0 := w) (cell := slcell) (y := (⟨As, cs, ms⟩ : SLc)) rfl _ _ _ rfl base w.heap.size 39 il _ 24 Tryd.underlying33 Hil.out Hzl0.out Hzl1.out Hzl2.out rfl (by decide) _ _ _ rfl gk.lo.outer _ _ HCS.out _ rfl (sl_one _) (by have := HOM.out; unfold maxLen; omega) (by have := HOM.out; omega) hbW (Nat.le_trans HS.out.1 (Nat.le_of_lt HS.out.2.2.1)) gk.bel ?_; intro v' w8 hown8 hb8 hg8; obtain ⟨g8, cap8, rfl⟩ := ownsRow_succ hown8)
          have g9 := gk.push (s := ⟨As, cs, ms⟩) (own_base hrow hbw) hb8 hown8 hg8
          have hmore := M.cntB_more (d := d) hv HLV.out
          have hle := M.cntB_le n (M.lstK lst d v n)
          refine ⟨rfl, n - M.cntB n (M.lstK lst d v n), ?_, dn ++ [v], left', S', M.lstK lst d v n, rfl, some ⟨g8, 0, none⟩, cap8, os ++ [⟨As, cs, ms⟩], ?_, rfl, ?_, Nat.le_trans hbW hg8.size, Lib.hid ⟨HNX.out.1, HNX.out.2, ?_⟩⟩
          · have := HMN.out; omega
          · rw [List.length_append]; rfl
          · rw [List.length_append]; exact g9
          · rw [List.map_append, List.map_append, HOS.out, List.map_singleton, List.map_singleton, HMS2.out]
    · have HEND : Hid (os.map (·.xs) = M.grps ps l) := Lib.hid (by rw [HI.out.2.2, HGR.out, HFL.out dn left S lst HI.out.1 HI.out.2.1 hlt])
      have q0 : decide ((M.cntB n lst : Int) < (n : Int)) = false := decide_eq_false (by omega)
      generalize M.cntB n lst = mn at *
      go_wp2_with fail
      go_ret2
      exact ⟨⟨0, HER.out, .inr ⟨rfl, Ao, co, os, rfl, ⟨own_base gs.lo.outer (Nat.le_trans HS.out.1 (Nat.le_of_lt HS.out.2.2.1)), fun s hs => own_base (gs.lo.inner s hs) (Nat.le_trans HS.out.1 (Nat.le_of_lt HS.out.2.2.1))⟩, HEND.out⟩⟩, gs.bel⟩
end Go.Proofs.YtceobfigfmnacaaDoor
end

section
namespace Go.Proofs.YtceobfigfmnacaaDoor
open Go Go.RowKit
set_option maxRecDepth 100000
namespace Bs
theorem els_range {s n : Nat} (hn : n ≤ 512) (h : ∀ j, s.testBit j = true → j < n) : els s 0 = (List.range n).filter (fun j => s.testBit j) := by
  rw [els_filter]
  have e : ∀ m, n ≤ m → (List.range m).filter (fun j => s.testBit j) = (List.range n).filter (fun j => s.testBit j) := by
    intro m hm
    induction m with
    | zero => rw [show n = 0 by omega]
    | succ m ih =>
      by_cases hlt : n ≤ m
      · rw [List.range_succ, List.filter_append, ih hlt]
        have : s.testBit m = false := by
          cases hb : s.testBit m with
          | false => rfl
          | true => have := h m hb; omega
        rw [List.filter_cons_of_neg (by rw [this]; decide)]
        simp
      · rw [show n = m + 1 by omega]
  exact e 512 hn
end Bs
namespace M
def rbf (l : List Mv) (d : Tb) (v k : Nat) : List Int := ((List.range k).filter fun j => d v j && decide (j ≠ v)).map (stv l)
theorem rbf_no {l : List Mv} {d : Tb} {v k : Nat} (h : (d v k && decide (k ≠ v)) = false) : rbf l d v (k + 1) = rbf l d v k := by
  unfold rbf
  rw [List.range_succ, List.filter_append, List.filter_cons_of_neg (by rw [h]; decide)]
  simp
theorem rbf_yes {l : List Mv} {d : Tb} {v k : Nat} (h : (d v k && decide (k ≠ v)) = true) : rbf l d v (k + 1) = rbf l d v k ++ [stv l k] := by
  unfold rbf
  rw [List.range_succ, List.filter_append, List.filter_cons_of_pos (by rw [h])]
  simp
theorem rbf_len (l : List Mv) (d : Tb) (v k : Nat) : (rbf l d v k).length ≤ k := by
  unfold rbf
  rw [List.length_map]
  have := List.length_filter_le (fun j => d v j && decide (j ≠ v)) (List.range k)
  simpa using this
theorem rbf_bef {ps : List P5} {l : List Mv} (h : Dg.Ok (rows ps l)) {v : Nat} (hv : v < l.length) : rbf l (dep (rows ps l)) v l.length = bef ps l v := by
  have hv' : v < (rows ps l).length := by rw [rows_len]; exact hv
  unfold rbf bef befv
  rw [Bs.els_range (n := l.length) (by have := h.len; rwa [rows_len] at this) (fun j hj => by have := ((Dg.rch_bit h hv' j).1 hj).lt h hv'; rwa [rows_len] at this), List.filter_filter]
  congr 1
  refine List.filter_congr fun k _ => ?_
  rw [dep_eq h hv', Bool.eq_iff_iff, Bool.and_eq_true, Bool.and_eq_true, decide_eq_true_eq, Dg.plus_iff h, Dg.rch_bit h hv']
  constructor
  · rintro ⟨h1, h2⟩; exact ⟨h2, h1.reach⟩
  · rintro ⟨h1, h2⟩
    rcases Dg.reach_plus h2 with e | h3
    · exact absurd e.symm h1
    · exact ⟨h3, h1⟩
end M
set_option maxHeartbeats 32000000 in
theorem rBefore_ok (PA : Option Addr) (pc np : Nat) (ps : List P5) (LA : Option Addr) (lc : Nat) (l : List Mv) (st : Int) (w : World) (hnp : np = ps.length) (hP : Sl 5 p5cell w w.heap.size PA ps) (hL : Sl 6 mvcell w w.heap.size LA l) (hl : l.length ≤ 9223372036854775806) (hi : M.Ints ps l) :
    Calls Tryd.prog 18 #[.slice PA np pc, .slice LA l.length lc, .int .i64 st] w fun e w' => (∃ er, M.errIs ps l er ∧ ((er ≠ 0 ∧ e = .returned (.tuple #[.slice none 0 0, .int .i64 er])) ∨ (er = 0 ∧ ((M.idx l st = none ∧ e = .returned (.tuple #[.slice none 0 0, .int .i64 9])) ∨ ∃ v A c, M.idx l st = some v ∧ e = .returned (.tuple #[.slice A (M.bef ps l v).length c, .int .i64 0]) ∧ Sl 1 icell w' w'.heap.size A (M.bef ps l v))))) ∧ Below w.heap.size w w' := by
  obtain ⟨ii, hii, hzi0, hzi1, hzi2⟩ := info_parts inInfo
  have Hii := Lib.hid hii; have Hzi0 := Lib.hid hzi0; have Hzi1 := Lib.hid hzi1; have Hzi2 := Lib.hid hzi2
  clear hii hzi0 hzi1 hzi2
  have kE := rError_ok PA pc np ps LA lc l w hnp hL hl
  have KD := Lib.hid (fun (u : World) (hu : Below w.heap.size w u) (h1 : ps.length ≤ 20000) (h2 : l.length ≤ 512) => rDepends_ok PA pc np ps LA lc l u hnp ((hP.below hu).more hu.size) ((hL.below hu).more hu.size) (by omega) (by omega) hi)
  have KA := Lib.hid (fun (u : World) (hu : Below w.heap.size w u) (h2 : l.length ≤ 512) => rAt_ok LA lc l st u ((hL.below hu).more hu.size) (by omega))
  have HL : Hid (∀ W, Below w.heap.size w W → Sl 6 mvcell W w.heap.size LA l) := Lib.hid (fun W hb => hL.below hb)
  clear hnp hP hi hL
  go_enter Tryd.func18, Tryd.ntmps18
  go_wp2_with fail
  refine kE.mono ?_
  rintro e w2 ⟨⟨er, rfl, her⟩, hb2⟩
  clear kE
  have HER := Lib.hid her
  by_cases he0 : er = 0
  case neg =>
    have q1 : (er != 0) = true := by simpa using he0
    have HE0 := Lib.hid he0
    clear her he0
    go_wp2_with fail
    go_ret2
    exact ⟨⟨er, HER.out, .inl ⟨HE0.out, rfl⟩⟩, hb2⟩
  case pos =>
    subst he0
    have hok : M.mvsOk l ∧ ps.length ≤ 20000 := by
      rcases her with ⟨h1, h2, -⟩ | ⟨-, -, h⟩ | ⟨-, h⟩
      · exact ⟨h1, h2⟩
      · cases h
      · cases h
    have hR := M.rows_ok (ps := ps) hok.1.1
    have hl512 := hok.1.1
    have kA := KA.out w2 hb2 hl512
    have HKD := Lib.hid (fun (u : World) (hu : Below w.heap.size w u) => KD.out u hu hok.2 hl512)
    have HBE := Lib.hid (fun (v : Nat) (hv : v < l.length) => M.rbf_bef hR hv)
    clear her hok KD KA hR
    obtain ⟨ix, hix⟩ : ∃ ix, M.idx l st = ix := ⟨_, rfl⟩
    unfold M.idxI at kA
    have HIX := Lib.hid hix
    have HIL := Lib.hid (fun (v : Nat) (h : ix = some v) => (M.idx_some (hix.trans h)).1)
    rw [hix] at kA
    clear hix
    go_wp2_with fail
    refine kA.mono ?_
    rintro e w3 ⟨rfl, hb3⟩
    clear kA
    have B3 := after_ hb2 hb3
    cases ix with
    | none =>
      dsimp only
      have q1 : decide ((-1 : Int) < 0) = true := rfl
      go_wp2_with fail
      go_ret2
      exact ⟨⟨0, HER.out, .inr ⟨rfl, .inl ⟨HIX.out, rfl⟩⟩⟩, B3⟩
    | some v =>
      dsimp only
      have hv := HIL.out v rfl
      have kD := HKD.out w3 B3
      have HBF := Lib.hid (HBE.out v hv)
      clear HBE HKD HIL
      have xv0 : (0 : Int) ≤ (v : Int) := by omega
      have xv1 : (v : Int) < (l.length : Int) := by omega
      have q1 : decide ((v : Int) < 0) = false := decide_eq_false (by omega)
      go_wp2_with fail
      refine kD.mono ?_
      rintro e w4 ⟨g, b, rfl, htb, hb4⟩
      clear kD
      have B4 := after_ B3 hb4
      obtain ⟨n, hn⟩ : ∃ n, l.length = n := ⟨_, rfl⟩
      have HN := Lib.hid hn
      rw [hn] at hl512 htb hv xv1 HBF ⊢
      clear hn
      generalize M.dep (M.rows ps l) = d at *
      go_wp2_with fail
      refine wp_loop_mrg [11, 12, 27, 28, 29, 30, 31, 32, 33, 34, 35, 36, 37, 38, 39, 40, 41, 42, 43, 44, 45, 46, 47, 48, 49, 50, 51, 52] (fun mm f ds W0 => ds = [] ∧ ∃ (k : Nat) (As : Option Addr) (cs : Nat), f 12 = .int .i64 k ∧ f 11 = .slice As (M.rbf l d v k).length cs ∧ mm = n - k ∧ k ≤ n ∧ Below w4.heap.size w4 W0 ∧ W0.ownsRow w4.heap.size 3 1 (.slice As (M.rbf l d v k).length cs) (M.rbf l d v k).length (flat 1 icell (M.rbf l d v k))) n ⟨rfl, 0, none, 0, rfl, rfl, rfl, Nat.zero_le _, Below.refl _ _, own_nil _ _ _ _ _⟩ ?_
      intro c1' T1' hc2 hT2
      rintro mm f ds W0 ⟨rfl, k, As, cs, hf12, hf11, rfl, hk, hB, hrow⟩
      replace hc2 := hc2.out
      subst hc2
      replace hT2 := hT2.out
      subst hT2
      generalize hF : mrgF _ 0 _ _ = F
      simp only [mrg_hit, mrg_miss, mrg_end, Nat.reduceBEq, Nat.reduceAdd] at hF
      rw [hf12, hf11] at hF
      subst hF
      by_cases hlt : k < n
      · have x0 : (0 : Int) ≤ (k : Int) := by omega
        have x1 : (k : Int) < (n : Int) := by omega
        have q0 : decide ((k : Int) < (n : Int)) = true := decide_eq_true x1
        have tbW := htb.next hB
        have hhv := tbW.head (Nat.le_refl _) hv
        have v1 := (tbW.at hv hlt).1
        have BW := after_ B4 hB
        obtain ⟨lm, hlm, hlmb, m0, -⟩ := (HL.out W0 BW).mv6 (show k < l.length by rw [HN.out]; exact hlt)
        rw [M.stv_at] at m0
        obtain ⟨r1, hr1⟩ : ∃ r, d v k = r := ⟨_, rfl⟩
        rw [hr1] at v1
        have hbl := M.rbf_len l d v k
        clear tbW
        cases r1 with
        | false =>
          have HMY : Hid (M.rbf l d v (k + 1) = M.rbf l d v k) := Lib.hid (M.rbf_no (by rw [hr1, Bool.false_and]))
          clear hr1
          try clear hkv
          generalize M.rbf l d v k = ms at *
          have hund : undef = Value.tuple #[] := rfl
          go_wp2_with fail
          exact ⟨_, rfl, rfl, n - (k + 1), by omega, by trivial, k + 1, As, cs, rfl, by rw [HMY.out]; rfl, rfl, hlt, hB, by rw [HMY.out]; exact hrow⟩
        | true =>
          by_cases hkv : k = v
          · have qc : ((k : Int) != (v : Int)) = false := by simpa using (by omega : (k : Int) = (v : Int))
            have HMY : Hid (M.rbf l d v (k + 1) = M.rbf l d v k) := Lib.hid (M.rbf_no (by rw [hr1, decide_eq_false (by omega : ¬ k ≠ v), Bool.and_false]))
            clear hr1
            try clear hkv
            generalize M.rbf l d v k = ms at *
            have hund : undef = Value.tuple #[] := rfl
            go_wp2_with fail
            exact ⟨_, rfl, rfl, n - (k + 1), by omega, by trivial, k + 1, As, cs, rfl, by rw [HMY.out]; rfl, rfl, hlt, hB, by rw [HMY.out]; exact hrow⟩
          · have qc : ((k : Int) != (v : Int)) = true := by simpa using (by omega : ¬ (k : Int) = (v : Int))
            have HMY : Hid (M.rbf l d v (k + 1) = M.rbf l d v k ++ [M.stv l k]) := Lib.hid (M.rbf_yes (by rw [hr1, decide_eq_true hkv]; rfl))
            clear hr1 hkv
            generalize M.stv l k = sx at *
            generalize M.rbf l d v k = ms at *
            subst hlm
            go_wp2_with (at_builtin; refine wpList_push (w0 := w4) (cell := icell) (y := sx) rfl _ _ _ rfl w4.heap.size w4.heap.size 3 ii _ 8 Tryd.underlying39 Hii.out Hzi0.out Hzi1.out Hzi2.out rfl (by decide) _ _ _ rfl hrow _ _ rfl _ rfl (fun _ => rfl) (by unfold maxLen; omega) (by omega) hB.size (Nat.le_refl _) hB ?_; intro v' w8 hown8 hb8 hg8; obtain ⟨g8, cap8, rfl⟩ := ownsRow_succ hown8)
            refine ⟨_, rfl, rfl, n - (k + 1), by omega, by trivial, k + 1, some ⟨g8, 0, none⟩, cap8, rfl, ?_, rfl, hlt, hb8, ?_⟩
            · rw [HMY.out, List.length_append]; rfl
            · rw [HMY.out, List.length_append]; exact hown8
      · obtain rfl : n = k := by omega
        have q0 : decide ((n : Int) < (n : Int)) = false := decide_eq_false (by omega)
        rw [HBF.out] at hrow ⊢
        obtain ⟨be, hbe⟩ : ∃ be, M.bef ps l v = be := ⟨_, rfl⟩
        have HB := Lib.hid hbe
        rw [hbe] at hrow ⊢
        clear hbe
        go_wp2_with fail
        go_ret2
        exact ⟨⟨0, HER.out, .inr ⟨rfl, .inr ⟨v, As, cs, HIX.out, by rw [HB.out] <;> rfl, by rw [HB.out]; exact Sl.of_own (by decide) hrow⟩⟩⟩, after_ B4 hB⟩
end Go.Proofs.YtceobfigfmnacaaDoor
end
