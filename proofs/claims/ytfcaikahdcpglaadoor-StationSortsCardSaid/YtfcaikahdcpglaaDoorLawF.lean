/- The walk of the law StationFields. -/
import Derived.Test.YtfcaikahdcpglaaDoorKnownA
namespace Go.Proofs.YtfcaikahdcpglaaDoor
open Go Go.RowKit
set_option maxRecDepth 100000

/-- A law that returned true and kept everything that was there. -/
def LawTrue (w : World) (e : Ending) (w' : World) : Prop := e = .returned (.bool true) ∧ Below w.heap.size w w'

set_option maxHeartbeats 8000000 in
theorem stationFields_walk (W H : Int) (GA PA : Option Addr) (gc pc : Nat) (G P : List Int) (s : St) (A : Option Addr) (c : Nat) (cx cy : Int) (w : World) (ht : Tab w) (hg : Sl 1 icell w w.heap.size GA G) (hp : Sl 1 icell w w.heap.size PA P) (hS : Sl 1 icell w w.heap.size A s.pat) :
    Calls Tryd.prog 3 #[tv W H GA PA G.length gc P.length pc, stv s A c, cv cx cy] w (LawTrue w) := by
  obtain ⟨V, HW, x0, x1, x2, hB, -⟩ := boxes3 w #[.int .i64 W, .int .i64 H, .slice GA G.length gc, .slice PA P.length pc] 24 (stc s A c) 28 #[.int .i64 cx, .int .i64 cy] 30
  obtain ⟨U, HU, u0, hBU, -⟩ := boxes1 V (stc s A c) 28
  have BU := after_ hB hBU
  have hL : Sl 8 secell U U.heap.size (some ⟨V.heap.size, 0, none⟩) [⟨s, A, c⟩] := Sl.of_box u0 rfl
  have y0 := x0.below hBU
  have y1 := x1.below hBU
  have y2 := x2.below hBU
  have hg1 := (hg.below BU).more BU.size
  have hp1 := (hp.below BU).more BU.size
  have hS1 := (hS.below BU).more BU.size
  have hV := HW.out
  have hU := HU.out
  obtain ⟨c0, c1, c2, c3⟩ := x0.c4
  obtain ⟨b0, b1, b2, b3, b4, b5, b6, b7⟩ := x1.c8
  go_enter Tryd.func3, Tryd.ntmps3
  go_wp2_with fail
  clear hV hU c0 c1 c2 c3 b0 b1 b2 b3 b4 b5 b6 b7
  refine (big_any W H GA PA gc pc G.length P.length (some ⟨V.heap.size, 0, none⟩) 1 [⟨s, A, c⟩] U hL).mono ?_
  rintro e w1 ⟨rfl, hb1⟩
  have B1 := after_ BU hb1
  cases hbig : M.big13 G.length P.length (([⟨s, A, c⟩] : List SE).map (·.s)) with
  | true =>
    go_wp2_with fail
    refine (known_any w1 (ht.kept B1)).mono ?_
    rintro e w2 ⟨rfl, hb2⟩
    go_wp2_with fail
    go_ret
    exact ⟨rfl, after_ B1 hb2⟩
  | false =>
    have hgl : G.length ≤ 300 ∧ P.length ≤ 300 ∧ s.pat.length ≤ 20 := by
      unfold M.big13 at hbig
      simp at hbig
      omega
    clear hbig
    have x01 := y0.below hb1
    have x11 := y1.below hb1
    have x21 := y2.below hb1
    have hg2 := (hg1.below hb1).more hb1.size
    have hp2 := (hp1.below hb1).more hb1.size
    have hS2 := (hS1.below hb1).more hb1.size
    obtain ⟨c0, c1, c2, c3⟩ := x01.c4
    obtain ⟨b0, b1, b2, b3, b4, b5, b6, b7⟩ := x11.c8
    obtain ⟨d0, d1⟩ := x21.c2
    go_wp2_with fail
    cases hok : M.okF W H G P s cx cy with
    | false =>
      refine (field_no W H GA PA gc pc G P s A c cx cy w1 hg2 hp2 hS2 (by omega) (by omega) (by omega) hok).mono ?_
      rintro e w2 ⟨rfl, hb2⟩
      have B2 := after_ B1 hb2
      clear c0 c1 c2 c3 b0 b1 b2 b3 b4 b5 b6 b7 d0 d1
      obtain ⟨c0, c1, c2, c3⟩ := (x01.below hb2).c4
      obtain ⟨b0, b1, b2, b3, b4, b5, b6, b7⟩ := (x11.below hb2).c8
      obtain ⟨d0, d1⟩ := (x21.below hb2).c2
      go_wp2_with fail
      refine (rAllowed_any W H GA PA gc pc G P s A c cx cy w2 ((hg2.below hb2).more hb2.size) ((hp2.below hb2).more hb2.size) ((hS2.below hb2).more hb2.size) (by omega) (by omega)).mono ?_
      rintro e w3 ⟨rfl, hb3⟩
      rw [hok]
      have B3 := after_ B2 hb3
      go_wp2_with fail
      refine (known_any w3 (ht.kept B3)).mono ?_
      rintro e w4 ⟨rfl, hb4⟩
      go_wp2_with fail
      go_ret
      exact ⟨rfl, after_ B3 hb4⟩
    | true =>
      refine (field_ok W H GA PA gc pc G P s A c cx cy w1 (ht.kept B1) hg2 hp2 hS2 hok).mono ?_
      rintro e w2 ⟨rfl, hb2⟩
      have B2 := after_ B1 hb2
      clear c0 c1 c2 c3 b0 b1 b2 b3 b4 b5 b6 b7 d0 d1
      have x02 := x01.below hb2
      have x12 := x11.below hb2
      have x22 := x21.below hb2
      have hg3 := (hg2.below hb2).more hb2.size
      have hp3 := (hp2.below hb2).more hb2.size
      have hS3 := (hS2.below hb2).more hb2.size
      obtain ⟨c0, c1, c2, c3⟩ := x02.c4
      obtain ⟨b0, b1, b2, b3, b4, b5, b6, b7⟩ := x12.c8
      obtain ⟨d0, d1⟩ := x22.c2
      go_wp2_with fail
      refine (rAllowed_any W H GA PA gc pc G P s A c cx cy w2 hg3 hp3 hS3 (by omega) (by omega)).mono ?_
      rintro e w3 ⟨rfl, hb3⟩
      rw [hok]
      have B3 := after_ B2 hb3
      clear c0 c1 c2 c3 b0 b1 b2 b3 b4 b5 b6 b7 d0 d1
      obtain ⟨c0, c1, c2, c3⟩ := (x02.below hb3).c4
      obtain ⟨b0, b1, b2, b3, b4, b5, b6, b7⟩ := (x12.below hb3).c8
      obtain ⟨d0, d1⟩ := (x22.below hb3).c2
      go_wp2_with fail
      refine (rField_ok W H GA PA gc pc G P s A c cx cy w3 ((hg3.below hb3).more hb3.size) ((hS3.below hb3).more hb3.size) hok).mono ?_
      rintro e w4 ⟨rfl, hb4⟩
      have B4 := after_ B3 hb4
      generalize M.field W G s cx cy = F at *
      have q : (F == F) = true := by simp
      clear c0 c1 c2 c3 b0 b1 b2 b3 b4 b5 b6 b7 d0 d1
      go_wp2_with fail
      refine (known_any w4 (ht.kept B4)).mono ?_
      rintro e w5 ⟨rfl, hb5⟩
      go_wp2_with fail
      go_ret
      exact ⟨rfl, after_ B4 hb5⟩
end Go.Proofs.YtfcaikahdcpglaaDoor
