/- A bundle of texts: Peo. -/
import Derived.Test.YtciolgmljpamlaaGreatDoorB24
/- Layer 14: the program's People on errors, at terrains and patterns of any size. -/
section
namespace Go.Proofs.YtciolgmljpamlaaGreatDoor
open Go Go.RowKit
set_option maxRecDepth 100000

set_option maxHeartbeats 4000000 in
theorem people_big (W H : Int) (GA PA : Option Addr) (gc pc : Nat) (G P : List Int) (s : St) (A : Option Addr) (c : Nat) (w : World) (hg : Sl 1 icell w w.heap.size GA G) (hp : Sl 1 icell w w.heap.size PA P) (hS : Sl 1 icell w w.heap.size A s.pat)
    (hgl : G.length ≤ 9223372036854775807) (hpl' : P.length ≤ 9223372036854775807) (hpl : s.pat.length ≤ 9223372036854775807) (hok : M.okS W H G P s = false) :
    Calls Tryz.prog 13 #[tv W H GA PA G.length gc P.length pc, stv s A c] w fun e w' => e = .returned (.tuple #[.int .i64 0, .int .i64 2]) ∧ Below w.heap.size w w' := by
  obtain ⟨V, HW, x0, x1, hB, -⟩ := boxes2 w #[.int .i64 W, .int .i64 H, .slice GA G.length gc, .slice PA P.length pc] 24 (stc s A c) 40
  obtain ⟨c0, c1, c2, c3⟩ := x0.c4
  obtain ⟨b0, b1, b2, b3, b4, b5, b6, b7⟩ := x1.c8
  have hV := HW.out
  go_enter Tryz.func13, Tryz.ntmps13
  go_wp2_with fail
  clear hV c0 c1 c2 c3 b0 b1 b2 b3 b4 b5 b6 b7
  refine (area_big W H GA PA gc pc G P s A c V ((hg.below hB).more hB.size) ((hp.below hB).more hB.size) ((hS.below hB).more hB.size) hgl hpl' hpl hok).mono ?_
  rintro e w1 ⟨rfl, hb1⟩
  go_wp2_with fail
  go_ret2
  exact ⟨rfl, after_ hB hb1⟩

end Go.Proofs.YtciolgmljpamlaaGreatDoor
end
