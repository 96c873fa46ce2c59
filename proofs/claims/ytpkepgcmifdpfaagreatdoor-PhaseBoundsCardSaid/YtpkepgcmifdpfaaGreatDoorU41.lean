/- A bundle of texts: RpA, RpD, RpE. -/
import Derived.Test.YtpkepgcmifdpfaaGreatDoorU40
import Derived.Test.YtpkepgcmifdpfaaGreatDoorU37
import Derived.Test.YtpkepgcmifdpfaaGreatDoorU33
import Derived.Test.YtpkepgcmifdpfaaGreatDoorU10
section
namespace Go.Proofs.YtpkepgcmifdpfaaGreatDoor
open Go Go.RowKit Go.Maps
set_option maxRecDepth 100000
end Go.Proofs.YtpkepgcmifdpfaaGreatDoor
end

section
namespace Go.Proofs.YtpkepgcmifdpfaaGreatDoor
open Go Go.RowKit
set_option maxRecDepth 100000
end Go.Proofs.YtpkepgcmifdpfaaGreatDoor
end

section
namespace Go.Proofs.YtpkepgcmifdpfaaGreatDoor
open Go Go.RowKit Go.Maps
set_option maxRecDepth 100000
structure LI (W : World) (base : Nat) (v : Value) (ls : List SLc) : Prop where
  outer : W.ownsRow base 29 1 v ls.length (flat 1 slcell ls)
  inner : ∀ s ∈ ls, W.ownsRow 0 3 1 (.slice s.A s.xs.length s.c) s.xs.length (flat 1 icell s.xs)
section
variable {W W' : World} {base : Nat} {v : Value} {ls : List SLc}
theorem LI.none_ (W : World) (base : Nat) : LI W base (.slice none 0 0) [] := ⟨own_nil _ _ _ _ _, fun s h => absurd h (by simp)⟩
theorem LI.below (h : LI W base v ls) (hb : Below W.heap.size W W') : LI W' base v ls := ⟨own_below h.outer hb, fun s hs => own_below (h.inner s hs) hb⟩
theorem LI.push (h : LI W base v ls) {v' : Value} {s : SLc} (hi : W.ownsRow 0 3 1 (.slice s.A s.xs.length s.c) s.xs.length (flat 1 icell s.xs)) (ho : W'.ownsRow base 29 1 v' (ls.length + 1) (flat 1 slcell (ls ++ [s]))) (hg : W.grownBy W' v.ownBlock) : LI W' base v' (ls ++ [s]) := by
  refine ⟨by rw [List.length_append]; exact ho, fun t ht => ?_⟩
  have hk : ∀ t : SLc, W.ownsRow 0 3 1 (.slice t.A t.xs.length t.c) t.xs.length (flat 1 icell t.xs) → W'.ownsRow 0 3 1 (.slice t.A t.xs.length t.c) t.xs.length (flat 1 icell t.xs) := fun t h1 => h1.kept hg (own_ne h1 h.outer (by decide))
  rcases List.mem_append.1 ht with ht | ht
  · exact hk t (h.inner t ht)
  · obtain rfl := List.mem_singleton.1 ht
    exact hk t hi
theorem LI.put {g n cap : Nat} (h : LI W base (.slice (some ⟨g, 0, none⟩) n cap) ls) {k : Nat} (hk : k < ls.length) {s : SLc} (hin : W.ownsRow 0 3 1 (.slice s.A s.xs.length s.c) s.xs.length (flat 1 icell s.xs)) :
    LI (W.setCell ⟨g, k, none⟩ (.slice s.A s.xs.length s.c)) base (.slice (some ⟨g, 0, none⟩) n cap) (ls.set k s) := by
  have hln : ls.length = n := by
    rcases h.outer.2 with ⟨e, _⟩ | ⟨g2, c2, cur, e, _⟩
    · cases e
    · injection e with e1 e2 e3
      exact e2.symm
  subst hln
  have hrow : ∀ {ba : Nat} {v : Value} {n : Nat} {xs : List Value}, W.ownsRow ba 3 1 v n xs → (W.setCell ⟨g, k, none⟩ (.slice s.A s.xs.length s.c)).ownsRow ba 3 1 v n xs := fun ho => ho.kept (grown_set W g k _) (own_ne ho h.outer (by decide))
  refine ⟨?_, fun t ht => ?_⟩
  · have h3 := own_set h.outer hk (j := 0) (y := s) (u := .slice s.A s.xs.length s.c) (by decide) rfl (fun j' h3 h4 => absurd h3 (by omega))
    rw [Nat.mul_one, Nat.add_zero] at h3
    rw [List.length_set]
    exact h3
  · rcases List.mem_or_eq_of_mem_set ht with h1 | rfl
    · exact hrow (h.inner t h1)
    · exact hrow hin
theorem LI.one_at (h : LI W base v ls) (hk : 0 < ls.length) : ∃ g cap, v = .slice (some ⟨g, 0, none⟩) ls.length cap ∧ base ≤ g := by
  rcases h.outer.2 with ⟨e, h0⟩ | ⟨g, cap, cur, e, hb, -⟩
  · omega
  · exact ⟨g, cap, e, hb⟩
end
structure GP (w1 W : World) (v : Value) (ls : List SLc) : Prop where
  bel : Below w1.heap.size w1 W
  li : LI W w1.heap.size v ls
theorem GP.next {w1 W W' : World} {v : Value} {ls : List SLc} (h : GP w1 W v ls) (hb : Below W.heap.size W W') : GP w1 W' v ls := ⟨after_ h.bel hb, h.li.below hb⟩
theorem M.trIs_some (t : Tr) : ∃ er, M.trIs t er := by
  by_cases h1 : M.trOk t
  · by_cases h2 : t.ps.length ≤ 20000
    · by_cases h3 : M.twAll t.l t.T t.C
      · exact ⟨0, .inl ⟨h1, h2, h3, rfl⟩⟩
      · exact ⟨9, .inr (.inl ⟨h1, h2, h3, rfl⟩)⟩
    · exact ⟨7, .inr (.inr (.inl ⟨h1, by omega, rfl⟩))⟩
  · exact ⟨2, .inr (.inr (.inr ⟨h1, rfl⟩))⟩
end Go.Proofs.YtpkepgcmifdpfaaGreatDoor
end
