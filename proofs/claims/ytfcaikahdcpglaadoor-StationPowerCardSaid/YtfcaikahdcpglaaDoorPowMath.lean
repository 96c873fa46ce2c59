/- The plain laws behind StationPower. -/
import Derived.Test.YtfcaikahdcpglaaDoorSort
namespace Go.Proofs.YtfcaikahdcpglaaDoor
namespace M
theorem tot_self (W : Int) (G : List Int) (x y f t : Int) : tot W G x y f x y t = 0 := by
  unfold tot
  have h1 : sq x y x y = 0 := by unfold sq; simp
  have h2 : obst W G x y f x y t = [] := by
    unfold obst
    have : lineN x y x y = 0 := by unfold lineN span; simp
    rw [this]; rfl
  rw [h1, h2]
  simp [free]
  decide
theorem field_self (W : Int) (G : List Int) (s : St) : field W G s s.x s.y = s.pw := by
  unfold field
  rw [tot_self, Int.sub_self, Int.sub_self, aloss_zero]
  omega
theorem field_le {W H : Int} {G P : List Int} {s : St} {cx cy : Int} (h : okF W H G P s cx cy = true) : field W G s cx cy ≤ s.pw := by
  unfold okF at h
  rw [Bool.and_eq_true] at h
  obtain ⟨-, -, -, h4, -, -, hav⟩ := svalid_iff.1 h.1
  have h1 := aloss_bd (avalid_iff.1 hav).2.2 (cx - s.x) (cy - s.y)
  have h2 := tot_bd h.2
  unfold field
  omega
theorem okF_self {W H : Int} {G P : List Int} {s : St} {cx cy : Int} (h : okF W H G P s cx cy = true) : okF W H G P s s.x s.y = true := by
  rw [okF_eq] at h ⊢
  simp only [Bool.and_eq_true] at h ⊢
  exact ⟨h.1, h.1.2⟩
/-- The other station of the law: more power, and the number from above. -/
def oth (s : St) (more : Int) : St := ⟨511 - s.id, s.x, s.y, s.pw + more, s.h, s.pat, s.band, s.ch⟩
theorem oth_valid {s : St} {more : Int} (h : svalid s = true) (h0 : 0 ≤ more) (h1 : s.pw + more ≤ 300) : svalid (oth s more) = true := by
  obtain ⟨a, b, c, d, e, f, g⟩ := svalid_iff.1 h
  exact svalid_iff.2 ⟨by unfold oth; dsimp only; omega, b, c, by unfold oth; dsimp only; omega, e, f, g⟩
theorem oth_ok {W H : Int} {G P : List Int} {s : St} {cx cy more : Int} (h : okF W H G P s cx cy = true) (h0 : 0 ≤ more) (h1 : s.pw + more ≤ 300) : okF W H G P (oth s more) cx cy = true := by
  unfold okF at h ⊢
  rw [Bool.and_eq_true] at h ⊢
  exact ⟨oth_valid h.1 h0 h1, h.2⟩
theorem oth_field (W : Int) (G : List Int) (s : St) (cx cy more : Int) : field W G (oth s more) cx cy = field W G s cx cy + more := by
  unfold field oth
  dsimp only
  omega
theorem sortTo2 {a b : St} (h0 : 0 ≤ a.id) (h : a.id < b.id) (n : Nat) : sortTo [a, b] n = (if a.id < (n : Int) then [a] else []) ++ (if b.id < (n : Int) then [b] else []) ∧ sortTo [b, a] n = (if a.id < (n : Int) then [a] else []) ++ (if b.id < (n : Int) then [b] else []) := by
  induction n with
  | zero =>
    rw [if_neg (by omega), if_neg (by omega)]
    exact ⟨rfl, rfl⟩
  | succ n ih =>
    rw [sortTo_succ, sortTo_succ, ih.1, ih.2]
    by_cases e1 : a.id = (n : Int)
    · have e2 : ¬ b.id = (n : Int) := by omega
      have q1 : a.id < ((n + 1 : Nat) : Int) := by omega
      have q2 : ¬ b.id < ((n + 1 : Nat) : Int) := by omega
      have q3 : ¬ a.id < (n : Int) := by omega
      have q4 : ¬ b.id < (n : Int) := by omega
      rw [if_pos q1, if_neg q2, if_neg q3, if_neg q4]
      simp [e1, e2]
    · by_cases e2 : b.id = (n : Int)
      · have q1 : a.id < ((n + 1 : Nat) : Int) := by omega
        have q2 : b.id < ((n + 1 : Nat) : Int) := by omega
        have q3 : a.id < (n : Int) := by omega
        have q4 : ¬ b.id < (n : Int) := by omega
        rw [if_pos q1, if_pos q2, if_pos q3, if_neg q4]
        simp [e1, e2]
      · have q : ∀ i : Int, ¬ i = (n : Int) → ((i < ((n + 1 : Nat) : Int)) ↔ i < (n : Int)) := fun i hi => by omega
        simp only [q _ e1, q _ e2]
        simp [e1, e2]
theorem sort2 {a b : St} (ha : svalid a = true) (hb : svalid b = true) (h : a.id < b.id) : sortR [a, b] = ([a, b], 0) ∧ sortR [b, a] = ([a, b], 0) := by
  obtain ⟨⟨a1, a2⟩, -⟩ := svalid_iff.1 ha
  obtain ⟨⟨b1, b2⟩, -⟩ := svalid_iff.1 hb
  have h2 := sortTo2 a1 h 512
  rw [if_pos (by omega), if_pos (by omega)] at h2
  have e1 : a.id ≠ b.id := by omega
  have t1 : twice [a, b] = false := by unfold twice; simp [e1]
  have t2 : twice [b, a] = false := by unfold twice; simp [Ne.symm e1]
  unfold sortR sortS
  rw [t1, t2]
  simp only [List.all_cons, List.all_nil, ha, hb, Bool.and_self, if_true, Bool.false_eq_true, if_false]
  exact ⟨by rw [h2.1]; rfl, by rw [h2.2]; rfl⟩
/-- The two stations, in order. -/
def lo (s : St) (more : Int) : St := if s.id < 511 - s.id then s else oth s more
def hi (s : St) (more : Int) : St := if s.id < 511 - s.id then oth s more else s
theorem lohi {s : St} {more : Int} (h : svalid s = true) (h0 : 0 ≤ more) (h1 : s.pw + more ≤ 300) : sortR [s, oth s more] = ([lo s more, hi s more], 0) ∧ sortR [oth s more, s] = ([lo s more, hi s more], 0) ∧ (lo s more).id < (hi s more).id ∧ (lo s more).pat = s.pat ∧ (hi s more).pat = s.pat := by
  have ho := oth_valid h h0 h1
  unfold lo hi
  by_cases hc : s.id < 511 - s.id
  · rw [if_pos hc, if_pos hc]
    have := sort2 h ho (show s.id < (oth s more).id from hc)
    exact ⟨this.1, this.2, hc, rfl, rfl⟩
  · rw [if_neg hc, if_neg hc]
    have h3 : (oth s more).id < s.id := by show 511 - s.id < s.id; omega
    have := sort2 ho h h3
    exact ⟨this.2, this.1, h3, rfl, rfl⟩
end M
end Go.Proofs.YtfcaikahdcpglaaDoor
