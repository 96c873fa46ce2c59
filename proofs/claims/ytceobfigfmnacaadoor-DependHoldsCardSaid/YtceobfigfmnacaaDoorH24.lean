/- A bundle of texts: Kn47, RdT, Rd1, Rd2, Rd3, Rd4. -/
import Derived.Test.YtceobfigfmnacaaDoorH22
import Derived.Test.YtceobfigfmnacaaDoorH23
import Derived.Test.YtceobfigfmnacaaDoorH07
import Derived.Test.YtceobfigfmnacaaDoorH04
section
namespace Go.Proofs.YtceobfigfmnacaaDoor
open Go Go.RowKit
set_option maxRecDepth 100000
abbrev kpsc : Array Value := #[.int .i64 1, .int .i64 2, .int .i64 0, .int .i64 14, .int .i64 51, .int .i64 2, .int .i64 3, .int .i64 0, .int .i64 14, .int .i64 51]
abbrev klc (x : Int) : Array Value := #[.int .i64 1, .int .i64 20, .int .i64 21, .int .i64 0, .int .i64 0, .int .i64 1, .int .i64 2, .int .i64 21, .int .i64 22, .int .i64 0, .int .i64 0, .int .i64 1, .int .i64 3, .int .i64 22, .int .i64 x, .int .i64 0, .int .i64 0, .int .i64 1]
structure K47 (w0 w : World) (bp bl : Nat) (x : Int) : Prop where
  bel : Below w0.heap.size w0 w
  p : Box w bp kpsc 65
  l : Box w bl (klc x) 26
  tab0 : Tab64 w0
theorem K47.tab {w0 w : World} {bp bl : Nat} {x : Int} (h : K47 w0 w bp bl x) : Tab64 w := h.tab0.kept h.bel
theorem K47.next {w0 w w' : World} {bp bl : Nat} {x : Int} (h : K47 w0 w bp bl x) (hb : Below w.heap.size w w') : K47 w0 w' bp bl x := ⟨after_ h.bel hb, h.p.below hb, h.l.below hb, h.tab0⟩
theorem K47.ps {w0 w : World} {bp bl : Nat} {x : Int} (h : K47 w0 w bp bl x) : Sl 5 p5cell w w.heap.size (some ⟨bp, 0, none⟩) M.kps := Sl.of_box h.p rfl
theorem K47.ls {w0 w : World} {bp bl : Nat} (h : K47 w0 w bp bl 30) : Sl 6 mvcell w w.heap.size (some ⟨bl, 0, none⟩) M.kl := Sl.of_box h.l rfl
theorem K47.ls2 {w0 w : World} {bp bl : Nat} (h : K47 w0 w bp bl 21) : Sl 6 mvcell w w.heap.size (some ⟨bl, 0, none⟩) M.kl2 := Sl.of_box h.l rfl
theorem k_err {er : Int} (h : M.errIs M.kps M.kl er) : er = 0 := by
  rcases h with ⟨-, -, h⟩ | ⟨-, h2, -⟩ | ⟨h, -⟩
  · exact h
  · exact absurd h2 (by decide)
  · exact absurd M.kl_ok h
theorem k_err2 {er : Int} (h : M.errIs M.kps M.kl2 er) : er = 0 := by
  rcases h with ⟨-, -, h⟩ | ⟨-, h2, -⟩ | ⟨h, -⟩
  · exact h
  · exact absurd h2 (by decide)
  · exact absurd M.kl2_ok h
theorem kGroups {w0 w : World} {bp bl : Nat} (h : K47 w0 w bp bl 30) : Calls Tryd.prog 15 #[.slice (some ⟨bp, 0, none⟩) 2 2, .slice (some ⟨bl, 0, none⟩) 3 3] w fun e w' => (∃ A c ls, e = .returned (.tuple #[.slice A ls.length c, .int .i64 0]) ∧ LL w' A ls ∧ ls.map (·.xs) = [[3], [2], [1]]) ∧ Below w.heap.size w w' := by
  refine (groups_ok _ 2 2 M.kps _ 3 M.kl w h.tab rfl h.ps h.ls (by decide) M.kps_w).mono ?_
  rintro e w' ⟨⟨er, her, hc⟩, hb⟩
  refine ⟨?_, hb⟩
  rcases hc with ⟨h1, -⟩ | ⟨-, A, c, ls, rfl, hlo, hls⟩
  · exact absurd (k_err her) h1
  · exact ⟨A, c, ls, rfl, hlo.ll, by rw [hls, M.k_grps]⟩
theorem kGroups2 {w0 w : World} {bp bl : Nat} (h : K47 w0 w bp bl 21) : Calls Tryd.prog 15 #[.slice (some ⟨bp, 0, none⟩) 2 2, .slice (some ⟨bl, 0, none⟩) 3 3] w fun e w' => (∃ A c ls, e = .returned (.tuple #[.slice A ls.length c, .int .i64 0]) ∧ LL w' A ls ∧ ls.map (·.xs) = [[2, 3], [1]]) ∧ Below w.heap.size w w' := by
  refine (groups_ok _ 2 2 M.kps _ 3 M.kl2 w h.tab rfl h.ps h.ls2 (by decide) M.kps_w).mono ?_
  rintro e w' ⟨⟨er, her, hc⟩, hb⟩
  refine ⟨?_, hb⟩
  rcases hc with ⟨h1, -⟩ | ⟨-, A, c, ls, rfl, hlo, hls⟩
  · exact absurd (k_err2 her) h1
  · exact ⟨A, c, ls, rfl, hlo.ll, by rw [hls, M.k_grps2]⟩
theorem kBefore {w0 w : World} {bp bl : Nat} (h : K47 w0 w bp bl 30) : Calls Tryd.prog 17 #[.slice (some ⟨bp, 0, none⟩) 2 2, .slice (some ⟨bl, 0, none⟩) 3 3, .int .i64 1] w fun e w' => (∃ A c, e = .returned (.tuple #[.slice A 2 c, .int .i64 0]) ∧ Sl 1 icell w' w'.heap.size A [2, 3]) ∧ Below w.heap.size w w' := by
  refine (before_ok _ 2 2 M.kps _ 3 M.kl 1 w h.tab rfl h.ps h.ls (by decide) M.kps_w (by unfold M.W64; omega)).mono ?_
  rintro e w' ⟨⟨er, her, hc⟩, hb⟩
  refine ⟨?_, hb⟩
  rcases hc with ⟨h1, -⟩ | ⟨-, ⟨hn, -⟩ | ⟨v, A, c, hv, rfl, hS⟩⟩
  · exact absurd (k_err her) h1
  · rw [M.k_idx] at hn; cases hn
  · rw [M.k_idx] at hv
    obtain rfl := Option.some.inj hv
    rw [M.k_bef] at hS ⊢
    exact ⟨A, c, rfl, hS⟩
theorem kDepth {w0 w : World} {bp bl : Nat} (h : K47 w0 w bp bl 30) : Calls Tryd.prog 19 #[.slice (some ⟨bp, 0, none⟩) 2 2, .slice (some ⟨bl, 0, none⟩) 3 3] w fun e w' => e = .returned (.tuple #[.int .i64 3, .int .i64 0]) ∧ Below w.heap.size w w' := by
  refine (depth_ok _ 2 2 M.kps _ 3 M.kl w h.tab rfl h.ps h.ls (by decide) M.kps_w).mono ?_
  rintro e w' ⟨⟨er, her, hc⟩, hb⟩
  refine ⟨?_, hb⟩
  rcases hc with ⟨h1, -⟩ | ⟨-, rfl⟩
  · exact absurd (k_err her) h1
  · rw [M.k_depth]; rfl
theorem kDepth2 {w0 w : World} {bp bl : Nat} (h : K47 w0 w bp bl 21) : Calls Tryd.prog 19 #[.slice (some ⟨bp, 0, none⟩) 2 2, .slice (some ⟨bl, 0, none⟩) 3 3] w fun e w' => e = .returned (.tuple #[.int .i64 2, .int .i64 0]) ∧ Below w.heap.size w w' := by
  refine (depth_ok _ 2 2 M.kps _ 3 M.kl2 w h.tab rfl h.ps h.ls2 (by decide) M.kps_w).mono ?_
  rintro e w' ⟨⟨er, her, hc⟩, hb⟩
  refine ⟨?_, hb⟩
  rcases hc with ⟨h1, -⟩ | ⟨-, rfl⟩
  · exact absurd (k_err2 her) h1
  · rw [M.k_depth2]; rfl
theorem kLegal {w0 w : World} {bp bl : Nat} (h : K47 w0 w bp bl 30) (OA : Option Addr) (oc no : Nat) (os : List SLc) (r : Int) (hno : no = os.length) (hO : LL w OA os) (hol : os.length ≤ 10) (hoi : ∀ s ∈ os, s.xs.length ≤ 10 ∧ ∀ x ∈ s.xs, 0 ≤ x ∧ x ≤ 10) (hr : M.legal M.kps M.kl (os.map (·.xs)) = r) : Calls Tryd.prog 23 #[.slice (some ⟨bp, 0, none⟩) 2 2, .slice (some ⟨bl, 0, none⟩) 3 3, .slice OA no oc] w fun e w' => e = .returned (.int .i64 r) ∧ Below w.heap.size w w' := by
  subst hno hr
  refine (legal_ok _ 2 2 M.kps _ 3 M.kl OA oc os w h.tab rfl h.ps h.ls (by decide) M.kps_w hO (by omega) (fun s hs => ⟨by have := (hoi s hs).1; omega, fun x hx => by have := (hoi s hs).2 x hx; unfold M.W64; omega⟩)).mono ?_
  rintro e w' ⟨⟨er, her, hc⟩, hb⟩
  refine ⟨?_, hb⟩
  rcases hc with ⟨h1, -⟩ | ⟨-, rfl⟩
  · exact absurd (k_err her) h1
  · rfl
theorem K47.set {w0 w : World} {bp bl : Nat} (h : K47 w0 w bp bl 30) (h1 : w0.heap.size ≤ bl) (h2 : bp ≠ bl) : K47 w0 (w.setCell ⟨bl, 14, none⟩ (.int .i64 21)) bp bl 21 :=
  ⟨h.bel.setCell (p := ⟨bl, 14, none⟩) h1 _, h.p.set_other (p := ⟨bl, 14, none⟩) h2 _, h.l.set 14 (.int .i64 21), h.tab0⟩
theorem LL.lit {w : World} {b : Nat} {cs : Array Value} {t : TypeId} {ls : List SLc} (hb : Box w b cs t) (h : cs.toList = flat 1 slcell ls) (hi : ∀ s ∈ ls, Sl 1 icell w w.heap.size s.A s.xs) : LL w (some ⟨b, 0, none⟩) ls := ⟨Sl.of_box hb h, hi⟩
set_option maxHeartbeats 64000000 in
theorem known47_any (w : World) (ht : Tab64 w) : Calls Tryd.prog 9 #[] w fun e w' => e = .returned (.bool true) ∧ Below w.heap.size w w' := by
  obtain ⟨V, HW, x1, x2, hB, -⟩ := boxes2 w kpsc 65 (klc 30) 26
  have kw : K47 w V w.heap.size (w.heap.size + 1) 30 := ⟨hB, x1, x2, ht⟩
  have hV := HW.out
  clear x1 x2 hB ht
  go_enter Tryd.func9, Tryd.ntmps9
  go_wp2_with fail
  refine (kGroups kw).mono ?_
  clear hV
  rintro e w2 ⟨⟨A1, c1, ls, rfl, hll, hls⟩, hb2⟩
  replace kw := kw.next hb2
  clear hb2
  go_wp2_with fail
  refine (kBefore kw).mono ?_
  rintro e w3 ⟨⟨A2, c2, rfl, hS2⟩, hb3⟩
  replace kw := kw.next hb3
  replace hll := hll.next hb3
  clear hb3
  go_wp2_with fail
  refine (kDepth kw).mono ?_
  rintro e w4 ⟨rfl, hb4⟩
  replace kw := kw.next hb4
  replace hll := hll.next hb4
  replace hS2 := (hS2.below hb4).more hb4.size
  clear hb4
  have hll3 : ls.length = 3 := by have := congrArg List.length hls; rw [List.length_map] at this; exact this
  obtain ⟨V1, HV1, ya0, ya1, ya2, ya3, hBV1, hsV1⟩ := boxes4 w4 #[.int .i64 3] 3 #[.int .i64 2] 3 #[.int .i64 1] 3 #[.slice (some ⟨w4.heap.size, 0, none⟩) 1 1, .slice (some ⟨w4.heap.size + 1, 0, none⟩) 1 1, .slice (some ⟨w4.heap.size + 1 + 1, 0, none⟩) 1 1] 39
  have la : LL V1 (some ⟨w4.heap.size + 1 + 1 + 1, 0, none⟩) [⟨some ⟨w4.heap.size, 0, none⟩, 1, [3]⟩, ⟨some ⟨w4.heap.size + 1, 0, none⟩, 1, [2]⟩, ⟨some ⟨w4.heap.size + 1 + 1, 0, none⟩, 1, [1]⟩] := LL.lit ya3 rfl (fun s hs => by
    simp only [List.mem_cons, List.not_mem_nil, or_false] at hs
    rcases hs with rfl | rfl | rfl
    · exact Sl.of_box ya0 rfl
    · exact Sl.of_box ya1 rfl
    · exact Sl.of_box ya2 rfl)
  have hV1 := HV1.out
  clear hsV1 ya0 ya1 ya2 ya3
  have kS := rSameLists_any A1 _ c1 3 ls [⟨some ⟨w4.heap.size, 0, none⟩, 1, [3]⟩, ⟨some ⟨w4.heap.size + 1, 0, none⟩, 1, [2]⟩, ⟨some ⟨w4.heap.size + 1 + 1, 0, none⟩, 1, [1]⟩] V1 (hll.next hBV1) la (by omega) (fun s hs => by
    have h1 : s.xs ∈ ls.map (·.xs) := List.mem_map.2 ⟨s, hs, rfl⟩
    rw [hls] at h1
    simp only [List.mem_cons, List.not_mem_nil, or_false] at h1
    rcases h1 with h1 | h1 | h1 <;> rw [h1] <;> decide)
  rw [hll3, hls, show List.map (fun (x : SLc) => x.xs) [⟨some ⟨w4.heap.size, 0, none⟩, 1, [3]⟩, ⟨some ⟨w4.heap.size + 1, 0, none⟩, 1, [2]⟩, ⟨some ⟨w4.heap.size + 1 + 1, 0, none⟩, 1, [1]⟩] = [[3], [2], [1]] from rfl, decide_eq_true rfl] at kS
  replace kw := kw.next hBV1
  replace hS2 := (hS2.below hBV1).more hBV1.size
  clear hBV1 la hll hls HV1
  go_wp2_with fail
  clear hV1
  refine kS.mono ?_
  rintro e w5 ⟨rfl, hb5⟩
  clear kS
  replace kw := kw.next hb5
  replace hS2 := (hS2.below hb5).more hb5.size
  clear hb5
  obtain ⟨V2, HV2, z0, hBV2, -⟩ := boxes1 w5 #[.int .i64 2, .int .i64 3] 3
  have kS := rSame_any A2 _ c2 2 [2, 3] [2, 3] V2 ((hS2.below hBV2).more hBV2.size) (Sl.of_box z0 rfl) (by decide)
  rw [decide_eq_true rfl] at kS
  replace kw := kw.next hBV2
  have hV2 := HV2.out
  clear hBV2 z0 HV2 hS2
  go_wp2_with fail
  clear hV2
  refine kS.mono ?_
  rintro e w6 ⟨rfl, hb6⟩
  clear kS
  replace kw := kw.next hb6
  clear hb6
  obtain ⟨U0, HU0, yu00, yu01, hBU0, hsU0⟩ := boxes2 w6 #[.int .i64 1, .int .i64 2, .int .i64 3] 3 #[.slice (some ⟨w6.heap.size, 0, none⟩) 3 3] 39
  have lu0 : LL U0 (some ⟨w6.heap.size + 1, 0, none⟩) [⟨some ⟨w6.heap.size, 0, none⟩, 3, [1, 2, 3]⟩] := LL.lit yu01 rfl (fun s hs => by
    simp only [List.mem_cons, List.not_mem_nil, or_false] at hs
    rcases hs with rfl
    · exact Sl.of_box yu00 rfl)
  have hU0 := HU0.out
  clear hsU0 yu00 yu01
  replace kw := kw.next hBU0
  have kS := kLegal kw _ 1 1 [⟨some ⟨w6.heap.size, 0, none⟩, 3, [1, 2, 3]⟩] 0 rfl lu0 (by simp) (fun s hs => by
    simp only [List.mem_cons, List.not_mem_nil, or_false] at hs
    rcases hs with rfl <;> exact ⟨by simp, fun x hx => by simp at hx; omega⟩) M.k_l1
  clear hBU0 lu0 HU0
  go_wp2_with fail
  clear hU0
  refine kS.mono ?_
  rintro e v0 ⟨rfl, hb7⟩
  clear kS
  replace kw := kw.next hb7
  clear hb7
  obtain ⟨U1, HU1, yu10, yu11, yu12, yu13, hBU1, hsU1⟩ := boxes4 v0 #[.int .i64 1] 3 #[.int .i64 2] 3 #[.int .i64 3] 3 #[.slice (some ⟨v0.heap.size, 0, none⟩) 1 1, .slice (some ⟨v0.heap.size + 1, 0, none⟩) 1 1, .slice (some ⟨v0.heap.size + 1 + 1, 0, none⟩) 1 1] 39
  have lu1 : LL U1 (some ⟨v0.heap.size + 1 + 1 + 1, 0, none⟩) [⟨some ⟨v0.heap.size, 0, none⟩, 1, [1]⟩, ⟨some ⟨v0.heap.size + 1, 0, none⟩, 1, [2]⟩, ⟨some ⟨v0.heap.size + 1 + 1, 0, none⟩, 1, [3]⟩] := LL.lit yu13 rfl (fun s hs => by
    simp only [List.mem_cons, List.not_mem_nil, or_false] at hs
    rcases hs with rfl | rfl | rfl
    · exact Sl.of_box yu10 rfl
    · exact Sl.of_box yu11 rfl
    · exact Sl.of_box yu12 rfl)
  have hU1 := HU1.out
  clear hsU1 yu10 yu11 yu12 yu13
  replace kw := kw.next hBU1
  have kS := kLegal kw _ 3 3 [⟨some ⟨v0.heap.size, 0, none⟩, 1, [1]⟩, ⟨some ⟨v0.heap.size + 1, 0, none⟩, 1, [2]⟩, ⟨some ⟨v0.heap.size + 1 + 1, 0, none⟩, 1, [3]⟩] 10 rfl lu1 (by simp) (fun s hs => by
    simp only [List.mem_cons, List.not_mem_nil, or_false] at hs
    rcases hs with rfl | rfl | rfl <;> exact ⟨by simp, fun x hx => by simp at hx; omega⟩) M.k_l2
  clear hBU1 lu1 HU1
  go_wp2_with fail
  clear hU1
  refine kS.mono ?_
  rintro e v1 ⟨rfl, hb7⟩
  clear kS
  replace kw := kw.next hb7
  clear hb7
  obtain ⟨U2, HU2, yu20, yu21, yu22, hBU2, hsU2⟩ := boxes3 v1 #[.int .i64 3] 3 #[.int .i64 2] 3 #[.slice (some ⟨v1.heap.size, 0, none⟩) 1 1, .slice (some ⟨v1.heap.size + 1, 0, none⟩) 1 1] 39
  have lu2 : LL U2 (some ⟨v1.heap.size + 1 + 1, 0, none⟩) [⟨some ⟨v1.heap.size, 0, none⟩, 1, [3]⟩, ⟨some ⟨v1.heap.size + 1, 0, none⟩, 1, [2]⟩] := LL.lit yu22 rfl (fun s hs => by
    simp only [List.mem_cons, List.not_mem_nil, or_false] at hs
    rcases hs with rfl | rfl
    · exact Sl.of_box yu20 rfl
    · exact Sl.of_box yu21 rfl)
  have hU2 := HU2.out
  clear hsU2 yu20 yu21 yu22
  replace kw := kw.next hBU2
  have kS := kLegal kw _ 2 2 [⟨some ⟨v1.heap.size, 0, none⟩, 1, [3]⟩, ⟨some ⟨v1.heap.size + 1, 0, none⟩, 1, [2]⟩] 9 rfl lu2 (by simp) (fun s hs => by
    simp only [List.mem_cons, List.not_mem_nil, or_false] at hs
    rcases hs with rfl | rfl <;> exact ⟨by simp, fun x hx => by simp at hx; omega⟩) M.k_l3
  clear hBU2 lu2 HU2
  go_wp2_with fail
  clear hU2
  refine kS.mono ?_
  rintro e v2 ⟨rfl, hb7⟩
  clear kS
  replace kw := kw.next hb7
  clear hb7
  have cl := kw.l.cell 14 rfl
  have fl := kw.l.frozen 14
  go_wp2_with fail
  replace kw := kw.set (Nat.le_succ _) (by omega)
  clear cl fl
  refine (kGroups2 kw).mono ?_
  rintro e t1 ⟨⟨A1, c1, ls, rfl, hll, hls⟩, hb2⟩
  replace kw := kw.next hb2
  clear hb2
  go_wp2_with fail
  refine (kDepth2 kw).mono ?_
  rintro e t2 ⟨rfl, hb4⟩
  replace kw := kw.next hb4
  replace hll := hll.next hb4
  clear hb4
  have hll2 : ls.length = 2 := by have := congrArg List.length hls; rw [List.length_map] at this; exact this
  obtain ⟨V9, HV9, ye0, ye1, ye2, hBV9, hsV9⟩ := boxes3 t2 #[.int .i64 2, .int .i64 3] 3 #[.int .i64 1] 3 #[.slice (some ⟨t2.heap.size, 0, none⟩) 2 2, .slice (some ⟨t2.heap.size + 1, 0, none⟩) 1 1] 39
  have le : LL V9 (some ⟨t2.heap.size + 1 + 1, 0, none⟩) [⟨some ⟨t2.heap.size, 0, none⟩, 2, [2, 3]⟩, ⟨some ⟨t2.heap.size + 1, 0, none⟩, 1, [1]⟩] := LL.lit ye2 rfl (fun s hs => by
    simp only [List.mem_cons, List.not_mem_nil, or_false] at hs
    rcases hs with rfl | rfl
    · exact Sl.of_box ye0 rfl
    · exact Sl.of_box ye1 rfl)
  have hV9 := HV9.out
  clear hsV9 ye0 ye1 ye2
  have kS := rSameLists_any A1 _ c1 2 ls [⟨some ⟨t2.heap.size, 0, none⟩, 2, [2, 3]⟩, ⟨some ⟨t2.heap.size + 1, 0, none⟩, 1, [1]⟩] V9 (hll.next hBV9) le (by omega) (fun s hs => by
    have h1 : s.xs ∈ ls.map (·.xs) := List.mem_map.2 ⟨s, hs, rfl⟩
    rw [hls] at h1
    simp only [List.mem_cons, List.not_mem_nil, or_false] at h1
    rcases h1 with h1 | h1 <;> rw [h1] <;> decide)
  rw [hll2, hls, show List.map (fun (x : SLc) => x.xs) [⟨some ⟨t2.heap.size, 0, none⟩, 2, [2, 3]⟩, ⟨some ⟨t2.heap.size + 1, 0, none⟩, 1, [1]⟩] = [[2, 3], [1]] from rfl, decide_eq_true rfl] at kS
  replace kw := kw.next hBV9
  clear hBV9 le hll hls HV9
  go_wp2_with fail
  clear hV9
  refine kS.mono ?_
  rintro e t5 ⟨rfl, hb5⟩
  clear kS
  replace kw := kw.next hb5
  clear hb5
  go_wp2_with fail
  go_ret
  exact ⟨rfl, kw.bel⟩
end Go.Proofs.YtceobfigfmnacaaDoor
end

section
namespace Go.Proofs.YtceobfigfmnacaaDoor
open Go Go.RowKit
set_option maxRecDepth 100000
def fnl {α : Type} (n : Nat) (f : Nat → α) : List α := (List.range n).map f
section
variable {α : Type} {n : Nat} {f g : Nat → α}
theorem fnl_len : (fnl n f).length = n := by simp [fnl]
theorem fnl_at {k : Nat} (hk : k < (fnl n f).length) : (fnl n f)[k] = f k := by simp [fnl]
theorem fnl_congr (h : ∀ k, k < n → f k = g k) : fnl n f = fnl n g := by
  unfold fnl
  exact List.map_congr_left fun k hk => h k (List.mem_range.1 hk)
theorem fnl_set (k : Nat) (x : α) : (fnl n f).set k x = fnl n fun j => if j = k then x else f j := by
  apply List.ext_getElem
  · simp [fnl]
  · intro i h1 h2
    rw [List.getElem_set, fnl_at h2, fnl_at (by simpa using h1)]
    by_cases e : k = i
    · subst e; simp
    · rw [if_neg e, if_neg (fun h => e h.symm)]
theorem fnl_rep (x : α) : List.replicate n x = fnl n fun _ => x := by unfold fnl; rw [List.map_const', List.length_range]
end
def hvc (v : Value) (_ : Nat) : Value := v
def hdr (b : Nat → Nat) (n m : Nat) (i : Nat) : Value := if i < m then .slice (some ⟨b i, 0, none⟩) n n else .slice none 0 0
abbrev BR (w : World) (base g n : Nat) (f : Nat → Bool) : Prop := w.ownsRow base 4 1 (.slice (some ⟨g, 0, none⟩) n n) n (flat 1 blc (fnl n f))
section
variable {w : World} {base g n : Nat} {f : Nat → Bool}
theorem BR.at (h : BR w base g n f) {k : Nat} (hk : k < n) : w.cell? ⟨g, k, none⟩ = some (.bool (f k)) ∧ w.frozen? ⟨g, k, none⟩ = false := by
  have := own_at (size := 1) (cell := blc) h (k := k) (j := 0) (by rw [fnl_len]; exact hk) (by decide)
  rw [Nat.mul_one, Nat.add_zero, fnl_at] at this
  exact this
theorem BR.set (h : BR w base g n f) {k : Nat} (hk : k < n) (v : Bool) : BR (w.setCell ⟨g, k, none⟩ (.bool v)) base g n (fun j => if j = k then v else f j) := by
  have h3 := own_set (size := 1) (cell := blc) h (k := k) (by rw [fnl_len]; exact hk) (j := 0) (y := v) (u := .bool v) (by decide) rfl (fun j' h1 h2 => absurd h1 (by omega))
  rw [Nat.mul_one, Nat.add_zero, fnl_set] at h3
  exact h3
theorem BR.congr {f' : Nat → Bool} (h : BR w base g n f) (e : ∀ k, k < n → f k = f' k) : BR w base g n f' := by
  unfold BR at *
  rw [← fnl_congr e]
  exact h
end
structure TB (w : World) (base g n m : Nat) (b : Nat → Nat) (f : M.Tb) : Prop where
  outer : w.ownsRow base 54 1 (.slice (some ⟨g, 0, none⟩) n n) n (flat 1 hvc (fnl n (hdr b n m)))
  row : ∀ i, i < m → BR w base (b i) n (f i)
  mono : ∀ i j, i < j → j < m → b i < b j
  far : ∀ i, i < m → g < b i
section
variable {w w' : World} {base g n m : Nat} {b : Nat → Nat} {f : M.Tb}
theorem TB.next (h : TB w base g n m b f) (hb : Below w.heap.size w w') : TB w' base g n m b f := ⟨own_below h.outer hb, fun i hi => own_below (h.row i hi) hb, h.mono, h.far⟩
theorem TB.head (h : TB w base g n m b f) {i : Nat} (hm : m ≤ n) (hi : i < m) : w.cell? ⟨g, i, none⟩ = some (.slice (some ⟨b i, 0, none⟩) n n) := by
  have := (own_at (size := 1) (cell := hvc) h.outer (k := i) (j := 0) (by rw [fnl_len]; omega) (by decide)).1
  rw [Nat.mul_one, Nat.add_zero, fnl_at] at this
  rw [this]
  unfold hvc hdr
  rw [if_pos hi]
theorem TB.at (h : TB w base g n m b f) {i k : Nat} (hi : i < m) (hk : k < n) : w.cell? ⟨b i, k, none⟩ = some (.bool (f i k)) ∧ w.frozen? ⟨b i, k, none⟩ = false := (h.row i hi).at hk
theorem TB.lt (h : TB w base g n m b f) {i : Nat} (hi : i < m) : base ≤ b i ∧ b i < w.heap.size := own_lt (h.row i hi)
theorem TB.inj (h : TB w base g n m b f) {i j : Nat} (hi : i < m) (hj : j < m) (e : b i = b j) : i = j := by
  rcases Nat.lt_trichotomy i j with h1 | h1 | h1
  · have := h.mono i j h1 hj; omega
  · exact h1
  · have := h.mono j i h1 hi; omega
theorem TB.set (h : TB w base g n m b f) {i k : Nat} (hi : i < m) (hk : k < n) (v : Bool) : TB (w.setCell ⟨b i, k, none⟩ (.bool v)) base g n m b (M.upd f i k v) := by
  refine ⟨h.outer.kept (grown_set w (b i) k (.bool v)) (.inr (fun e => by have e2 : g = b i := Option.some.inj e; have := h.far i hi; omega)), fun j hj => ?_, h.mono, h.far⟩
  by_cases e : j = i
  · subst e
    have h3 := (h.row j hj).set hk v
    refine h3.congr fun c _ => ?_
    unfold M.upd
    by_cases e2 : c = k
    · subst e2; rw [if_pos rfl, if_pos ⟨rfl, rfl⟩]
    · rw [if_neg e2, if_neg (fun h => e2 h.2)]
  · have h3 := World.ownsRow.kept (h.row j hj) (grown_set w (b i) k (.bool v)) (.inr (fun e2 => e (h.inj hj hi (Option.some.inj e2))))
    refine BR.congr (f := f j) h3 fun c _ => ?_
    unfold M.upd
    rw [if_neg (fun h => e h.1)]
theorem TB.kept {row : Option Nat} (h : TB w base g n m b f) (hg : w.grownBy w' row) (h1 : row ≠ some g) (h2 : ∀ i, i < m → row ≠ some (b i)) : TB w' base g n m b f :=
  ⟨h.outer.kept hg (.inr (fun e => h1 e.symm)), fun i hi => (World.ownsRow.kept (h.row i hi) hg (.inr (fun e => h2 i hi e.symm))), h.mono, h.far⟩
theorem TB.more (h : TB w base g n m b f) {c : Nat} (hm : m < n) (hr : BR w base c n (fun _ => false)) (hc : ∀ i, i < m → b i < c) (hgc : g < c) :
    TB (w.setCell ⟨g, m, none⟩ (.slice (some ⟨c, 0, none⟩) n n)) base g n (m + 1) (fun i => if i = m then c else b i) (fun i k => if i = m then false else f i k) := by
  refine ⟨?_, fun i hi => ?_, fun i j hij hj => ?_, fun i hi => ?_⟩
  · have h3 := own_set (size := 1) (cell := hvc) h.outer (k := m) (by rw [fnl_len]; exact hm) (j := 0) (y := .slice (some ⟨c, 0, none⟩) n n) (u := .slice (some ⟨c, 0, none⟩) n n) (by decide) rfl (fun j' h1 h2 => absurd h1 (by omega))
    rw [Nat.mul_one, Nat.add_zero, fnl_set] at h3
    have e : (fun j => if j = m then Value.slice (some ⟨c, 0, none⟩) n n else hdr b n m j) = hdr (fun i => if i = m then c else b i) n (m + 1) := by
      funext j
      unfold hdr
      by_cases e : j = m
      · subst e; rw [if_pos rfl, if_pos (by omega)]; simp
      · rw [if_neg e]
        by_cases h4 : j < m
        · rw [if_pos h4, if_pos (by omega)]; simp [e]
        · rw [if_neg h4, if_neg (by omega)]
    rwa [e] at h3
  · by_cases e : i = m
    · subst e
      simp only [if_pos]
      exact World.ownsRow.kept hr (grown_set w g i _) (.inr (fun e => by have e2 : c = g := Option.some.inj e; omega))
    · simp only [if_neg e]
      exact World.ownsRow.kept (h.row i (by omega)) (grown_set w g m _) (.inr (fun e2 => by have e2 : b i = g := Option.some.inj e2; have := h.far i (by omega); omega))
  · by_cases e : j = m
    · subst e
      have e3 : i ≠ j := by omega
      simp only [if_neg e3, if_pos]
      exact hc i hij
    · have e3 : i ≠ m := by omega
      simp only [if_neg e3, if_neg e]
      exact h.mono i j hij (by omega)
  · by_cases e : i = m
    · subst e; simp only [if_pos]; exact hgc
    · simp only [if_neg e]; exact h.far i (by omega)
theorem TB.congr {f' : M.Tb} (h : TB w base g n m b f) (e : ∀ i k, i < m → k < n → f i k = f' i k) : TB w base g n m b f' := ⟨h.outer, fun i hi => (h.row i hi).congr (fun k hk => e i k hi hk), h.mono, h.far⟩
end
end Go.Proofs.YtceobfigfmnacaaDoor
end

section
namespace Go.Proofs.YtceobfigfmnacaaDoor
open Go Go.RowKit
set_option maxRecDepth 100000
namespace M
structure Ints (ps : List P5) (l : List Mv) : Prop where
 p : ∀ p ∈ ps, W64 p.a ∧ W64 p.b ∧ W64 p.c
 l : ∀ m ∈ l, W64 m.st ∧ W64 m.old ∧ W64 m.new
end M
end Go.Proofs.YtceobfigfmnacaaDoor
end

section
namespace Go.Proofs.YtceobfigfmnacaaDoor
open Go Go.RowKit
set_option maxRecDepth 100000
namespace M
end M
end Go.Proofs.YtceobfigfmnacaaDoor
end

section
namespace Go.Proofs.YtceobfigfmnacaaDoor
open Go Go.RowKit
set_option maxRecDepth 100000
namespace M
theorem scc_inG {R : List Nat} (h : Dg.Ok R) {v j : Nat} (hv : v < R.length) (hj : j < R.length) : (Dg.scc R v).testBit j = inG (dep R) v j := by
  rw [inG_eq h hv hj, Bool.eq_iff_iff, Dg.scc_bit h hv, Dg.grp_iff h]
def lstK (lst : Nat → Bool) (d : Tb) (v k : Nat) : Nat → Bool := fun j => lst j || (decide (j < k) && inG d v j)
theorem RG.go {R done left : List Nat} {S n : Nat} {lst : Nat → Bool} (h : Dg.Ok R) (hn : R.length = n) (r : RG R done left S) (hl : ∀ j, j < n → lst j = S.testBit j) (hc : cntB n lst < n) :
    ∃ v, v < n ∧ lst v = false ∧ rdyT (dep R) lst n v = true ∧ (∀ j, j < v → lst j = true ∨ rdyT (dep R) lst n j = false) ∧ (∀ k, k < n → inG (dep R) v k = true → lst k = false) ∧
      ∃ left' S', RG R (done ++ [v]) left' S' ∧ ∀ j, j < n → lstK lst (dep R) v n j = S'.testBit j := by
  subst hn
  obtain ⟨j, hj, hlj⟩ := cntB_lt hc
  obtain ⟨v, h1, h2, h3, h4⟩ := r.at h hj (by rw [← hl j hj]; exact hlj)
  unfold Dg.rfirst at h1
  rw [Dg.find_first List.pairwise_lt_range] at h1
  obtain ⟨-, h5, h6⟩ := h1
  rw [Bool.and_eq_true, Bool.not_eq_true'] at h5
  refine ⟨v, h2, by rw [hl v h2]; exact h5.1, by rw [rdyT_eq h h2 hl]; exact h5.2, fun u hu => ?_, fun k hk hg => ?_, _, _, h4, fun k hk => ?_⟩
  · have hul : u < R.length := by omega
    rw [hl u hul, rdyT_eq h hul hl]
    cases hs : S.testBit u with
    | true => exact .inl rfl
    | false =>
      right
      cases hr : Dg.rdy R S u with
      | false => rfl
      | true =>
        have := h6 u (by simpa using hul) (by rw [hs, hr]; rfl)
        omega
  · rw [hl k hk]
    exact h3 k (by rw [scc_inG h h2 hk]; exact hg)
  · unfold lstK
    rw [Nat.testBit_or, scc_inG h h2 hk, hl k hk, decide_eq_true hk, Bool.true_and]
end M
structure RGS (w W : World) (g gl n base : Nat) (b : Nat → Nat) (d : M.Tb) (lst : Nat → Bool) (vO : Value) (os : List SLc) : Prop where
  bel : Below w.heap.size w W
  tb : TB W w.heap.size g n n b d
  bl : BR W w.heap.size gl n lst
  lo : LO W base vO os
section
variable {w W W' : World} {g gl n base : Nat} {b : Nat → Nat} {d : M.Tb} {lst : Nat → Bool} {vO : Value} {os : List SLc}
theorem RGS.next (h : RGS w W g gl n base b d lst vO os) (hb : Below W.heap.size W W') : RGS w W' g gl n base b d lst vO os := ⟨after_ h.bel hb, h.tb.next hb, own_below h.bl hb, h.lo.below hb⟩
theorem own_nn (v : Value) : v.ownBlock = none ∨ v.ownBlock ≠ none := by cases v.ownBlock <;> simp
theorem RGS.grow {row : Option Nat} {C : Nat} (h : RGS w W g gl n base b d lst vO os) (hg : W.grownBy W' row) (hr : ∀ r, row = some r → C ≤ r) (hC : w.heap.size ≤ C) (hl : g < C ∧ gl < C ∧ (∀ i, i < n → b i < C) ∧ (∀ r, vO.ownBlock = some r → r < C) ∧ ∀ s ∈ os, ∀ r, (Value.slice s.A s.xs.length s.c).ownBlock = some r → r < C) : RGS w W' g gl n base b d lst vO os := by
  obtain ⟨h1, h2, h3, h4, h5⟩ := hl
  refine ⟨h.bel.grown hg h.bel.size (fun k e => Nat.le_trans hC (hr k e)), h.tb.kept hg (fun e => by have := hr _ e; omega) (fun i hi e => by have := hr _ e; have := h3 i hi; omega), h.bl.kept hg (.inr (fun e => by have h9 : C ≤ gl := hr gl e.symm; omega)), ?_⟩
  cases row with
  | none => exact ⟨h.lo.outer.kept hg (own_nn _), fun s hs => (h.lo.inner s hs).kept hg (own_nn _)⟩
  | some r =>
    have hrr := hr r rfl
    exact h.lo.off hg (fun e => by have := h4 r e; omega) (fun s hs e => by have := h5 s hs r e; omega)
theorem RGS.push (h : RGS w W g gl n base b d lst vO os) {v' : Value} {s : SLc} (hi : W.ownsRow base 3 1 (.slice s.A s.xs.length s.c) s.xs.length (flat 1 icell s.xs)) (hb : Below w.heap.size w W') (ho : W'.ownsRow base 39 1 v' (os.length + 1) (flat 1 slcell (os ++ [s]))) (hg : W.grownBy W' vO.ownBlock) : RGS w W' g gl n base b d lst v' (os ++ [s]) := by
  have hne : ∀ {x : Nat} {e : TypeId} {bb : Nat} {xs : List Value}, W.ownsRow bb e 1 (.slice (some ⟨x, 0, none⟩) n n) n xs → e ≠ 39 → vO.ownBlock ≠ some x := fun {x e bb xs} h1 h2 => by
    rcases own_ne h1 h.lo.outer h2 with h3 | h3
    · cases h3
    · exact fun e2 => h3 e2.symm
  exact ⟨hb, h.tb.kept hg (hne h.tb.outer (by decide)) (fun i hi => hne (h.tb.row i hi) (by decide)), h.bl.kept hg (own_ne h.bl h.lo.outer (by decide)), h.lo.push hi ho hg⟩
theorem RGS.list (h : RGS w W g gl n base b d lst vO os) (hs : w.heap.size ≤ gl ∧ g < gl ∧ gl < base ∧ ∀ i, i < n → b i < gl) {k : Nat} (hk : k < n) : RGS w (W.setCell ⟨gl, k, none⟩ (.bool true)) g gl n base b d (M.setB lst k) vO os :=
  ⟨h.bel.setCell (p := ⟨gl, k, none⟩) hs.1 _, h.tb.kept (grown_set W gl k (.bool true)) (fun e => by have e2 : gl = g := Option.some.inj e; omega) (fun i hi e => by have e2 : gl = b i := Option.some.inj e; have := hs.2.2.2 i hi; omega), h.bl.set hk true, h.lo.far (grown_set W gl k (.bool true)) hs.2.2.1⟩
end
end Go.Proofs.YtceobfigfmnacaaDoor
end

section
namespace Go.Proofs.YtceobfigfmnacaaDoor
open Go Go.RowKit
set_option maxRecDepth 100000
namespace Bs
end Bs
namespace M
end M
end Go.Proofs.YtceobfigfmnacaaDoor
end
