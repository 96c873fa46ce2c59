/- Layer 13: Strongest. -/
import Derived.Test.YtohkbblfcjmmnaaGreatDoorStL
namespace Go.Proofs.YtohkbblfcjmmnaaGreatDoor
open Go Go.RowKit
set_option maxRecDepth 100000

def M.sstep (W : Int) (G : List Int) (cx cy : Int) (b : Int × Int) (s : St) : Int × Int :=
  if b.1 < 0 ∨ b.2 < M.field W G s cx cy ∨ (M.field W G s cx cy = b.2 ∧ s.id < b.1) then (s.id, M.field W G s cx cy) else b
def M.strong (W : Int) (G : List Int) (cx cy : Int) (l : List St) : Int × Int := l.foldl (M.sstep W G cx cy) (-1, 0)
theorem M.strong_snoc (W : Int) (G : List Int) (cx cy : Int) (l : List St) (s : St) : M.strong W G cx cy (l ++ [s]) = M.sstep W G cx cy (M.strong W G cx cy l) s := by
  unfold M.strong; rw [List.foldl_append]; rfl
def M.strongR (W H : Int) (G P : List Int) (l : List St) (cx cy : Int) : Int × Int × Int :=
  if (M.has W H G P cx cy && l.all fun s => M.okF W H G P s cx cy) = true then (if l = [] then (0, 0, 9) else ((M.strong W G cx cy l).1, (M.strong W G cx cy l).2, 0)) else (0, 0, 2)
theorem M.okF_iff {W H : Int} {G P : List Int} {s : St} {cx cy : Int} (hc : M.has W H G P cx cy = true) : M.okF W H G P s cx cy = true ↔ M.svalid s = true ∧ s.x < W ∧ s.y < H := by
  rw [M.okF_eq, hc, Bool.and_true, Bool.and_eq_true]
  have ht : M.tvalid W H G P = true := by unfold M.has at hc; rw [Bool.and_eq_true] at hc; exact hc.1
  constructor
  · rintro ⟨a, b⟩
    unfold M.has at b
    rw [Bool.and_eq_true] at b
    have := M.inside_iff.1 b.2
    exact ⟨a, this.1.2, this.2.2⟩
  · rintro ⟨a, b, c⟩
    obtain ⟨_, h2, h3, _⟩ := M.svalid_iff.1 a
    refine ⟨a, ?_⟩
    unfold M.has
    rw [ht, Bool.true_and]
    exact M.inside_iff.2 ⟨⟨h2.1, b⟩, h3.1, c⟩
theorem M.field_bd {W H : Int} {G P : List Int} {s : St} {cx cy : Int} (h : M.okF W H G P s cx cy = true) : -1000 ≤ M.field W G s cx cy ∧ M.field W G s cx cy ≤ 300 := by
  unfold M.okF at h
  rw [Bool.and_eq_true] at h
  obtain ⟨-, -, -, h4, -, -, hav⟩ := M.svalid_iff.1 h.1
  have h1 := M.aloss_bd (M.avalid_iff.1 hav).2.2 (cx - s.x) (cy - s.y)
  have h2 := M.tot_bd h.2
  unfold M.field
  omega

theorem ret_tri {r : Int × Int × Int} {a b c : Int} (h : r = (a, b, c)) : Ending.returned (.tuple #[.int .i64 a, .int .i64 b, .int .i64 c]) = .returned (.tuple #[.int .i64 r.1, .int .i64 r.2.1, .int .i64 r.2.2]) := by rw [h]

end Go.Proofs.YtohkbblfcjmmnaaGreatDoor