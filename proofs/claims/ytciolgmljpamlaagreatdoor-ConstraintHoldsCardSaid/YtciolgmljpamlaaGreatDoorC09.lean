/- A bundle of texts: LossMath, StMath. -/
section
namespace Go.Proofs.YtciolgmljpamlaaGreatDoor.M
def isIn (v lo hi : Int) : Bool := decide (lo ≤ v ∧ v ≤ hi)
def allIn (xs : List Int) (lo hi : Int) : Bool := xs.all fun v => isIn v lo hi
def tvalid (W H : Int) (G P : List Int) : Bool :=
  isIn W 1 64 && isIn H 1 64 && (decide ((G.length : Int) = W * H) && decide ((P.length : Int) = W * H)) && (allIn G 0 9000 && allIn P 0 1000000)
def inside (W H x y : Int) : Bool := isIn x 0 (W - 1) && isIn y 0 (H - 1)
theorem isIn_iff {v lo hi : Int} : isIn v lo hi = true ↔ lo ≤ v ∧ v ≤ hi := by unfold isIn; simp
theorem tvalid_iff {W H : Int} {G P : List Int} : tvalid W H G P = true ↔ (1 ≤ W ∧ W ≤ 64) ∧ (1 ≤ H ∧ H ≤ 64) ∧ (G.length : Int) = W * H ∧ (P.length : Int) = W * H ∧ (∀ g ∈ G, 0 ≤ g ∧ g ≤ 9000) ∧ (∀ p ∈ P, 0 ≤ p ∧ p ≤ 1000000) := by
  unfold tvalid allIn
  simp only [Bool.and_eq_true, isIn_iff, decide_eq_true_eq, List.all_eq_true]
  constructor
  · rintro ⟨⟨⟨a, b⟩, c, d⟩, e, f⟩; exact ⟨a, b, c, d, e, f⟩
  · rintro ⟨a, b, c, d, e, f⟩; exact ⟨⟨⟨a, b⟩, c, d⟩, e, f⟩
theorem inside_iff {W H x y : Int} : inside W H x y = true ↔ (0 ≤ x ∧ x < W) ∧ (0 ≤ y ∧ y < H) := by
  unfold inside
  rw [Bool.and_eq_true, isIn_iff, isIn_iff]
  omega
theorem place_bd {W H x y : Int} (hW : 1 ≤ W ∧ W ≤ 64) (hH : 1 ≤ H ∧ H ≤ 64) (hx : 0 ≤ x ∧ x < W) (hy : 0 ≤ y ∧ y < H) : 0 ≤ y * W ∧ y * W ≤ 4096 ∧ y * W + x < W * H := by
  have h1 : (0 : Int) ≤ y * W := Int.mul_nonneg hy.1 (by omega)
  have h2 : y * W ≤ (H - 1) * W := Int.mul_le_mul_of_nonneg_right (by omega) (by omega)
  have h3 : (H - 1) * W ≤ 63 * 64 := Int.mul_le_mul (by omega) (by omega) (by omega) (by omega)
  have h4 : (H - 1) * W = W * H - W := by rw [Int.sub_mul, Int.one_mul, Int.mul_comm]
  omega
def span (ax ay bx by' : Int) : Int := max (max (ax - bx) (bx - ax)) (max (ay - by') (by' - ay))
def pt (a b n i : Int) : Int := a + (2 * i * (b - a) + n) / (2 * n)
def lineAt (ax ay bx by' : Int) (i : Nat) : Int × Int := (pt ax bx (span ax ay bx by') ((i + 1 : Nat) : Int), pt ay by' (span ax ay bx by') ((i + 1 : Nat) : Int))
def lineN (ax ay bx by' : Int) : Nat := (span ax ay bx by').toNat - 1
def line (ax ay bx by' : Int) : List (Int × Int) := (List.range (lineN ax ay bx by')).map (lineAt ax ay bx by')
def c63 (x : Int) : Prop := 0 ≤ x ∧ x ≤ 63
theorem isIn63 {x : Int} (h : c63 x) : isIn x 0 63 = true := isIn_iff.2 h
theorem span_bd {ax ay bx by' : Int} (h1 : c63 ax) (h2 : c63 ay) (h3 : c63 bx) (h4 : c63 by') : 0 ≤ span ax ay bx by' ∧ span ax ay bx by' ≤ 63 := by
  unfold span c63 at *; omega
theorem prod_bd {k d : Int} (hk : 0 ≤ k ∧ k ≤ 63) (hd : -63 ≤ d ∧ d ≤ 63) : -7938 ≤ 2 * k * d ∧ 2 * k * d ≤ 7938 := by
  have h1 : 2 * k * d ≤ 2 * k * 63 := Int.mul_le_mul_of_nonneg_left hd.2 (by omega)
  have h2 : 2 * k * (-63) ≤ 2 * k * d := Int.mul_le_mul_of_nonneg_left hd.1 (by omega)
  omega
theorem span_if (ax ay bx by' : Int) : (if max (ax - bx) (bx - ax) < max (ay - by') (by' - ay) then max (ay - by') (by' - ay) else max (ax - bx) (bx - ax)) = span ax ay bx by' := by
  unfold span
  generalize max (ax - bx) (bx - ax) = p
  generalize max (ay - by') (by' - ay) = q
  split <;> omega
theorem line_length (ax ay bx by' : Int) : (line ax ay bx by').length = lineN ax ay bx by' := by simp [line]
theorem line_at {ax ay bx by' : Int} {k : Nat} (h : k < (line ax ay bx by').length) : (line ax ay bx by')[k] = lineAt ax ay bx by' k := by simp [line]
theorem pt_between {a b n j : Int} (hn : 0 < n) (hj : 0 ≤ j ∧ j ≤ n) : min a b ≤ pt a b n j ∧ pt a b n j ≤ max a b := by
  unfold pt
  generalize hd : b - a = d
  have key : min 0 d ≤ (2 * j * d + n) / (2 * n) ∧ (2 * j * d + n) / (2 * n) ≤ max 0 d := by
    by_cases h0 : 0 ≤ d
    · have h1 : j * d ≤ n * d := Int.mul_le_mul_of_nonneg_right hj.2 h0
      have h2 : 0 ≤ j * d := Int.mul_nonneg hj.1 h0
      have e1 : 2 * j * d = 2 * (j * d) := Int.mul_assoc _ _ _
      constructor
      · have : 0 ≤ (2 * j * d + n) / (2 * n) := Int.ediv_nonneg (by omega) (by omega)
        omega
      · have : (2 * j * d + n) / (2 * n) < d + 1 := Int.ediv_lt_of_lt_mul (by omega) (by
          have : (d + 1) * (2 * n) = 2 * (n * d) + 2 * n := by rw [Int.add_mul, Int.one_mul, Int.mul_comm d (2 * n), Int.mul_assoc]
          omega)
        omega
    · have h1 : n * d ≤ j * d := Int.mul_le_mul_of_nonpos_right hj.2 (by omega)
      have h2 : j * d ≤ 0 := Int.mul_nonpos_of_nonneg_of_nonpos hj.1 (by omega)
      have e1 : 2 * j * d = 2 * (j * d) := Int.mul_assoc _ _ _
      constructor
      · have : d ≤ (2 * j * d + n) / (2 * n) := Int.le_ediv_of_mul_le (by omega) (by
          have : d * (2 * n) = 2 * (n * d) := by rw [Int.mul_comm d (2 * n), Int.mul_assoc]
          omega)
        omega
      · have : (2 * j * d + n) / (2 * n) < 1 := Int.ediv_lt_of_lt_mul (by omega) (by omega)
        omega
  omega
theorem lineAt_in {ax ay bx by' W H : Int} {i : Nat} (hi : i < lineN ax ay bx by') (h1 : 0 ≤ ax ∧ ax < W) (h2 : 0 ≤ ay ∧ ay < H) (h3 : 0 ≤ bx ∧ bx < W) (h4 : 0 ≤ by' ∧ by' < H) :
    (0 ≤ (lineAt ax ay bx by' i).1 ∧ (lineAt ax ay bx by' i).1 < W) ∧ (0 ≤ (lineAt ax ay bx by' i).2 ∧ (lineAt ax ay bx by' i).2 < H) := by
  unfold lineN at hi
  unfold lineAt
  generalize span ax ay bx by' = n at *
  have a1 := pt_between (a := ax) (b := bx) (n := n) (j := ((i + 1 : Nat) : Int)) (by omega) (by omega)
  have a2 := pt_between (a := ay) (b := by') (n := n) (j := ((i + 1 : Nat) : Int)) (by omega) (by omega)
  simp only
  omega
def gnd (W : Int) (G : List Int) (p : Int × Int) : Int := G.getD (p.2 * W + p.1).toNat 0
def prof (W : Int) (G : List Int) (ax ay bx by' : Int) : List Int :=
  gnd W G (ax, ay) :: ((line ax ay bx by').map (gnd W G) ++ if ax = bx ∧ ay = by' then [] else [gnd W G (bx, by')])
theorem prof_length (W : Int) (G : List Int) (ax ay bx by' : Int) : (prof W G ax ay bx by').length = lineN ax ay bx by' + (if ax = bx ∧ ay = by' then 1 else 2) := by
  unfold prof
  split <;> simp [line_length]
theorem prof_first (W : Int) (G : List Int) (ax ay bx by' : Int) (h : 0 < (prof W G ax ay bx by').length) : (prof W G ax ay bx by')[0] = gnd W G (ax, ay) := rfl
theorem prof_at {W : Int} {G : List Int} {ax ay bx by' : Int} {i : Nat} (hi : i < lineN ax ay bx by') (h : i + 1 < (prof W G ax ay bx by').length) : (prof W G ax ay bx by')[i + 1] = gnd W G (lineAt ax ay bx by' i) := by
  simp [prof, line_length, hi, line_at]
theorem prof_last {W : Int} {G : List Int} {ax ay bx by' : Int} (h : (prof W G ax ay bx by').length - 1 < (prof W G ax ay bx by').length) : (prof W G ax ay bx by')[(prof W G ax ay bx by').length - 1] = gnd W G (bx, by') := by
  by_cases e : ax = bx ∧ ay = by'
  · have hl : (prof W G ax ay bx by').length - 1 = 0 := by
      rw [prof_length, if_pos e]
      obtain ⟨rfl, rfl⟩ := e
      unfold lineN span
      omega
    simp only [hl]
    rw [prof_first, e.1, e.2]
  · unfold prof
    simp [e, List.getElem_cons]
def obsC (W : Int) (G : List Int) (ax ay f bx by' t : Int) (i : Nat) : Bool :=
  decide ((gnd W G (ax, ay) + f) * (((lineN ax ay bx by' : Nat) : Int) + 1 - ((i : Int) + 1)) + (gnd W G (bx, by') + t) * ((i : Int) + 1) ≤ gnd W G (lineAt ax ay bx by' i) * (((lineN ax ay bx by' : Nat) : Int) + 1))
def obstTo (W : Int) (G : List Int) (ax ay f bx by' t : Int) (k : Nat) : List (Int × Int) := ((List.range k).filter (obsC W G ax ay f bx by' t)).map (lineAt ax ay bx by')
def obst (W : Int) (G : List Int) (ax ay f bx by' t : Int) : List (Int × Int) := obstTo W G ax ay f bx by' t (lineN ax ay bx by')
theorem obstTo_yes {W : Int} {G : List Int} {ax ay f bx by' t : Int} {k : Nat} (h : obsC W G ax ay f bx by' t k = true) : obstTo W G ax ay f bx by' t (k + 1) = obstTo W G ax ay f bx by' t k ++ [lineAt ax ay bx by' k] := by
  unfold obstTo; rw [List.range_succ, List.filter_append, List.map_append]; simp [h]
theorem obstTo_no {W : Int} {G : List Int} {ax ay f bx by' t : Int} {k : Nat} (h : obsC W G ax ay f bx by' t k = false) : obstTo W G ax ay f bx by' t (k + 1) = obstTo W G ax ay f bx by' t k := by
  unfold obstTo; rw [List.range_succ, List.filter_append, List.map_append]; simp [h]
theorem obstTo_length (W : Int) (G : List Int) (ax ay f bx by' t : Int) (k : Nat) : (obstTo W G ax ay f bx by' t k).length ≤ k := by
  unfold obstTo; rw [List.length_map]
  have := List.length_filter_le (obsC W G ax ay f bx by' t) (List.range k)
  rwa [List.length_range] at this
def sq (ax ay bx by' : Int) : Int := (bx - ax) * (bx - ax) + (by' - ay) * (by' - ay)
theorem sq_half {a b : Int} (h1 : c63 a) (h2 : c63 b) : 0 ≤ (b - a) * (b - a) ∧ (b - a) * (b - a) ≤ 3969 := by
  unfold c63 at *
  by_cases h : 0 ≤ b - a
  · have h3 : (b - a) * (b - a) ≤ 63 * 63 := Int.mul_le_mul (by omega) (by omega) (by omega) (by omega)
    exact ⟨Int.mul_nonneg h h, h3⟩
  · have e : (b - a) * (b - a) = (a - b) * (a - b) := by rw [← Int.neg_sub a b, Int.neg_mul_neg]
    have h3 : (a - b) * (a - b) ≤ 63 * 63 := Int.mul_le_mul (by omega) (by omega) (by omega) (by omega)
    rw [e]
    exact ⟨Int.mul_nonneg (by omega) (by omega), h3⟩
theorem sq_bd {ax ay bx by' : Int} (h1 : c63 ax) (h2 : c63 ay) (h3 : c63 bx) (h4 : c63 by') : 0 ≤ sq ax ay bx by' ∧ sq ax ay bx by' ≤ 7938 := by
  have a := sq_half h1 h3
  have b := sq_half h2 h4
  unfold sq; omega
end Go.Proofs.YtciolgmljpamlaaGreatDoor.M
end

section
namespace Go.Proofs.YtciolgmljpamlaaGreatDoor
structure St where
  id : Int
  x : Int
  y : Int
  pw : Int
  h : Int
  pat : List Int
  band : Int
  ch : Int
  deriving DecidableEq
namespace M
def steps (u v : Int) : Int := if 2 * u ≤ v then 3 else if u ≤ v then 2 else if u ≤ 2 * v then 1 else 0
def dir (dx dy : Int) : Int :=
  if 0 < dx ∧ 0 ≤ dy then steps dx dy else if 0 < dy ∧ 0 ≤ -dx then 4 + steps dy (-dx) else if 0 < -dx ∧ 0 ≤ -dy then 8 + steps (-dx) (-dy) else 12 + steps (-dy) dx
theorem steps_bd (u v : Int) : 0 ≤ steps u v ∧ steps u v ≤ 3 := by unfold steps; repeat' split; all_goals omega
theorem dir_bd (dx dy : Int) : 0 ≤ dir dx dy ∧ dir dx dy ≤ 15 := by
  have h1 := steps_bd dx dy
  have h2 := steps_bd dy (-dx)
  have h3 := steps_bd (-dx) (-dy)
  have h4 := steps_bd (-dy) dx
  unfold dir
  repeat' split
  all_goals omega
def band (ch : Int) : Int := if ch < 2 ∨ 51 < ch then 0 else if ch ≤ 6 then 1 else if ch ≤ 13 then 2 else 3
def avalid (h : Int) (pat : List Int) : Bool := isIn h 1 500 && decide (pat.length = 16) && allIn pat 0 80
def svalid (s : St) : Bool := isIn s.id 0 511 && (isIn s.x 0 63 && isIn s.y 0 63) && isIn s.pw 0 300 && isIn s.ch 2 51 && decide (s.band = band s.ch) && avalid s.h s.pat
theorem avalid_iff {h : Int} {pat : List Int} : avalid h pat = true ↔ (1 ≤ h ∧ h ≤ 500) ∧ pat.length = 16 ∧ ∀ g ∈ pat, 0 ≤ g ∧ g ≤ 80 := by
  unfold avalid allIn
  simp only [Bool.and_eq_true, isIn_iff, decide_eq_true_eq, List.all_eq_true]
  constructor
  · rintro ⟨⟨a, b⟩, c⟩; exact ⟨a, b, c⟩
  · rintro ⟨a, b, c⟩; exact ⟨⟨a, b⟩, c⟩
theorem svalid_iff {s : St} : svalid s = true ↔ (0 ≤ s.id ∧ s.id ≤ 511) ∧ (0 ≤ s.x ∧ s.x ≤ 63) ∧ (0 ≤ s.y ∧ s.y ≤ 63) ∧ (0 ≤ s.pw ∧ s.pw ≤ 300) ∧ (2 ≤ s.ch ∧ s.ch ≤ 51) ∧ s.band = band s.ch ∧ avalid s.h s.pat = true := by
  unfold svalid
  simp only [Bool.and_eq_true, isIn_iff, decide_eq_true_eq]
  constructor
  · rintro ⟨⟨⟨⟨⟨a, b, c⟩, d⟩, e⟩, f⟩, g⟩; exact ⟨a, b, c, d, e, f, g⟩
  · rintro ⟨a, b, c, d, e, f, g⟩; exact ⟨⟨⟨⟨⟨a, b, c⟩, d⟩, e⟩, f⟩, g⟩
def aloss (pat : List Int) (dx dy : Int) : Int := if dx = 0 ∧ dy = 0 then 0 else pat.getD (dir dx dy).toNat 0
theorem aloss_at {pat : List Int} {dx dy : Int} {j : Nat} (h0 : ¬ (dx = 0 ∧ dy = 0)) (hj : dir dx dy = (j : Int)) (h : j < pat.length) : pat[j] = aloss pat dx dy := by
  unfold aloss
  rw [if_neg h0, hj, Int.toNat_natCast]
  simp [h]
theorem aloss_bd {pat : List Int} (h : ∀ g ∈ pat, 0 ≤ g ∧ g ≤ 80) (dx dy : Int) : 0 ≤ aloss pat dx dy ∧ aloss pat dx dy ≤ 80 := by
  unfold aloss
  split
  · omega
  · generalize (dir dx dy).toNat = j
    by_cases hj : j < pat.length
    · have := h pat[j] (List.getElem_mem hj)
      simpa [hj] using this
    · simp [Nat.le_of_not_lt hj]
theorem aloss_zero (pat : List Int) : aloss pat 0 0 = 0 := by unfold aloss; simp
end M
end Go.Proofs.YtciolgmljpamlaaGreatDoor
end
