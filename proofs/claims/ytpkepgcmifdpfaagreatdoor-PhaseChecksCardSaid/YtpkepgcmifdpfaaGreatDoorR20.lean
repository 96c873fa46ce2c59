/- A bundle of texts: Drw. -/
import Derived.Test.YtpkepgcmifdpfaaGreatDoorR06
import Derived.Test.YtpkepgcmifdpfaaGreatDoorR01
section
namespace Go.Proofs.YtpkepgcmifdpfaaGreatDoor
open Go Go.RowKit
structure Drw (w : World) where
 n : Nat
def Drw.val {w : World} (u : Drw w) : World := w.drewN u.n
instance {w : World} : Nonempty (Drw w) := ⟨⟨0⟩⟩
@[go_sem] theorem Drw.cell_ {w : World} (u : Drw w) (p : Addr) : u.val.cell? p = w.cell? p := rfl
@[go_sem] theorem Drw.frozen_ {w : World} (u : Drw w) (p : Addr) : u.val.frozen? p = w.frozen? p := rfl
theorem Drw.same {w : World} {P : Program} {f : FuncId} {args : Array Value} {v : Value} {u : Drw w} (h : Calls P f args u.val fun e w' => e = .returned v ∧ u.val = w') : Calls P f args u.val fun e w'' => e = .returned v ∧ ∃ u' : Drw w, w'' = u'.val :=
 h.mono fun _ _ ⟨he, hb⟩ => ⟨he, u, hb.symm⟩
theorem wp_region_drw_tail {P : Program} {id : Nat} {Q : Exit → Act → World → Prop} {a : Act} {w : World} {l : List Oper} (n : Nat) (hm : P.follows .mixedOrders = true) (hB : tailB l.toArray (Array.replicate l.toArray.size false) 0 n = true)
  (h : wpQuiet P l.toArray (fun w' => ∃ u : Drw w, w' = u.val) (fun a' => ∀ w', (∃ u : Drw w, w' = u.val) → wpList P l.toArray Q (l.drop n) a' w') ((l.take n).drop 0) a) : (Code.region id l.toArray true).wp P Q a w :=
 wp_region_any hm (wpAny_quiet_tail (C := fun w' => ∃ u : Drw w, w' = u.val) 0 n hB (by simp) ⟨⟨1⟩, rfl⟩ h)
end Go.Proofs.YtpkepgcmifdpfaaGreatDoor
end
