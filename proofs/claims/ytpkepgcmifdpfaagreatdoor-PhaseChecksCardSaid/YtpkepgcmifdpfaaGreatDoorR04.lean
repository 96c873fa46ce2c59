/- A bundle of texts: DpMath, TwM, DpLegal, PhM, OrM, RdM. -/
import Derived.Test.YtpkepgcmifdpfaaGreatDoorR02
import Derived.Test.YtpkepgcmifdpfaaGreatDoorR03
section
namespace Go.Proofs.YtpkepgcmifdpfaaGreatDoor
open Go
structure Mv where
  st : Int
  old : Int
  new : Int
  tw : Int
  cr : Int
  wk : Int
  deriving DecidableEq
structure Ch where
  st : Int
  ch : Int
  deriving DecidableEq
namespace M
def W64 (x : Int) : Prop := -9223372036854775808 ≤ x ∧ x ≤ 9223372036854775807
theorem wrap_flip {x y o : Int} (hy : W64 y) (ho : W64 o) : y = IntKind.i64.wrap (x + o) ↔ IntKind.i64.wrap (y - x) = o := by
  unfold W64 at *
  unfold IntKind.wrap
  simp [IntKind.bits, IntKind.signed]
  omega
def hit (p : P5) (a b : Ch) : Bool := decide (p.a = a.st) && (decide (p.b = b.st) && (decide (p.d ≤ a.ch) && (decide (a.ch ≤ p.e) && decide (b.ch = IntKind.i64.wrap (a.ch + p.c)))))
def one (p : P5) (a b : Ch) : Bool := decide (p.a = a.st) && (decide (p.b = b.st) && (decide (p.d ≤ a.ch) && (decide (a.ch ≤ p.e) && decide (IntKind.i64.wrap (b.ch - a.ch) = p.c))))
theorem hit_one {p : P5} {a b : Ch} (hb : W64 b.ch) (hp : W64 p.c) : hit p a b = one p a b := by
  unfold hit one
  rw [decide_eq_decide.2 (wrap_flip hb hp)]
def forbd (ps : List P5) (a b : Ch) : Bool := !(decide (a.ch = 0) || decide (b.ch = 0)) && ps.any fun p => hit p a b || hit p b a
def waits (ps : List P5) (x y : Mv) : Bool := !decide (x.st = y.st) && forbd ps ⟨x.st, x.new⟩ ⟨y.st, y.old⟩
theorem hit_st {p : P5} {a b : Ch} (h : hit p a b = true) : p.a = a.st ∧ p.b = b.st := by
  unfold hit at h
  simp only [Bool.and_eq_true, decide_eq_true_eq] at h
  exact ⟨h.1, h.2.1⟩
theorem waits_of {ps qs : List P5} {x y : Mv} (h1 : ∀ p ∈ qs, p ∈ ps) (h2 : ∀ p ∈ ps, (p.a = x.st ∧ p.b = y.st) ∨ (p.a = y.st ∧ p.b = x.st) → p ∈ qs) : waits qs x y = waits ps x y := by
  unfold waits forbd
  congr 2
  rw [Bool.eq_iff_iff, List.any_eq_true, List.any_eq_true]
  constructor
  · rintro ⟨p, hp, h⟩; exact ⟨p, h1 p hp, h⟩
  · rintro ⟨p, hp, h⟩
    refine ⟨p, h2 p hp ?_, h⟩
    rw [Bool.or_eq_true] at h
    rcases h with h | h
    · exact .inl (hit_st h)
    · exact .inr (hit_st h)
theorem waits_none {ps : List P5} {x y : Mv} (h : ∀ p ∈ ps, ¬ ((p.a = x.st ∧ p.b = y.st) ∨ (p.a = y.st ∧ p.b = x.st))) : waits ps x y = false := by
  have := waits_of (ps := ps) (qs := []) (x := x) (y := y) (fun p hp => by cases hp) (fun p hp he => absurd he (h p hp))
  rw [← this]
  unfold waits forbd
  simp
def mvOk (m : Mv) : Bool := decide (0 ≤ m.st ∧ m.st ≤ 511) && (decide (m.old = 0 ∨ 2 ≤ m.old ∧ m.old ≤ 51) && (decide (m.new = 0 ∨ 2 ≤ m.new ∧ m.new ≤ 51) && (decide (m.old ≠ m.new) && (decide (0 ≤ m.tw ∧ m.tw ≤ 255) && (decide (0 ≤ m.cr ∧ m.cr ≤ 255) && decide (1 ≤ m.wk ∧ m.wk ≤ 52))))))
def mvsOk (l : List Mv) : Prop := l.length ≤ 512 ∧ (∀ m ∈ l, mvOk m = true) ∧ l.Pairwise fun x y => x.st < y.st
theorem mvsOk_inj {l : List Mv} (h : l.Pairwise fun x y => x.st < y.st) {i j : Nat} (hi : i < l.length) (hj : j < l.length) (e : l[i].st = l[j].st) : i = j := by
  rw [List.pairwise_iff_getElem] at h
  rcases Nat.lt_trichotomy i j with h1 | h1 | h1
  · have := h i j hi hj h1; omega
  · exact h1
  · have := h j i hj hi h1; omega
def rows (ps : List P5) (l : List Mv) : List Nat := l.map fun x => Bs.ofP (fun j => match l[j]? with | some y => waits ps x y | none => false) l.length
theorem rows_len (ps : List P5) (l : List Mv) : (rows ps l).length = l.length := by unfold rows; rw [List.length_map]
theorem rows_at {ps : List P5} {l : List Mv} {i j : Nat} (hi : i < l.length) (hj : j < l.length) : (Dg.row (rows ps l) i).testBit j = waits ps l[i] l[j] := by
  unfold Dg.row rows
  rw [List.getD_eq_getElem?_getD, List.getElem?_map, List.getElem?_eq_getElem hi]
  simp only [Option.map_some, Option.getD_some]
  rw [Bs.ofP_bit, decide_eq_true hj, Bool.true_and, List.getElem?_eq_getElem hj]
theorem rows_ok {ps : List P5} {l : List Mv} (h : l.length ≤ 512) : Dg.Ok (rows ps l) where
  len := by rw [rows_len]; exact h
  fit := fun v j hb => by
    rw [rows_len]
    unfold Dg.row rows at hb
    rw [List.getD_eq_getElem?_getD, List.getElem?_map] at hb
    cases hv : l[v]? with
    | none => rw [hv] at hb; simp at hb
    | some x =>
      rw [hv] at hb
      simp only [Option.map_some, Option.getD_some] at hb
      rw [Bs.ofP_bit, Bool.and_eq_true, decide_eq_true_eq] at hb
      exact hb.1
def sts (l : List Mv) (s : Nat) : List Int := (Bs.els s 0).map fun v => match l[v]? with | some m => m.st | none => 0
def grps (ps : List P5) (l : List Mv) : List (List Int) := (Dg.ord (rows ps l)).map fun v => sts l (Dg.scc (rows ps l) v)
end M
end Go.Proofs.YtpkepgcmifdpfaaGreatDoor
end

section
namespace Go.Proofs.YtpkepgcmifdpfaaGreatDoor
open Go
structure Si where
  id : Int
  cp : Int
  deriving DecidableEq
namespace M
theorem snocRec {α : Type} {motive : List α → Prop} (nil : motive []) (snoc : ∀ (l : List α) (x : α), motive l → motive (l ++ [x])) (l : List α) : motive l := by
  have h : ∀ r : List α, motive r.reverse := fun r => by
    induction r with
    | nil => exact nil
    | cons x r ih => rw [List.reverse_cons]; exact snoc _ _ ih
  have := h l.reverse
  rwa [List.reverse_reverse] at this
def siOk (s : Si) : Bool := decide (0 ≤ s.id ∧ s.id ≤ 255 ∧ 1 ≤ s.cp ∧ s.cp ≤ 64)
theorem siOk_iff {s : Si} : siOk s = true ↔ 0 ≤ s.id ∧ s.id ≤ 255 ∧ 1 ≤ s.cp ∧ s.cp ≤ 64 := by unfold siOk; exact decide_eq_true_iff
def sisOk (l : List Si) : Prop := (∀ s ∈ l, siOk s = true) ∧ l.Pairwise fun x y => x.id < y.id
def sisTo (l : List Si) (k : Nat) : Prop := ∀ j (hj : j < l.length), j < k → siOk l[j] = true ∧ ∀ h0 : 0 < j, (l[j - 1]'(by omega)).id < l[j].id
theorem rising_of {α : Type} (f : α → Int) (l : List α) (h : ∀ j (hj : j < l.length), ∀ h0 : 0 < j, f (l[j - 1]'(by omega)) < f l[j]) : l.Pairwise fun x y => f x < f y := by
  rw [List.pairwise_iff_getElem]
  intro i j hi hj hij
  obtain ⟨d, rfl⟩ := Nat.exists_eq_add_of_lt hij
  clear hij
  induction d with
  | zero => have := h (i + 0 + 1) hj (by omega); simpa using this
  | succ d ih =>
    have h1 := ih (by omega)
    have h2 := h (i + (d + 1) + 1) hj (by omega)
    have h3 : (l[i + (d + 1) + 1 - 1]'(by omega)) = (l[i + d + 1]'(by omega)) := by congr 1
    rw [h3] at h2
    omega
theorem sisTo_all {l : List Si} : sisTo l l.length ↔ sisOk l := by
  constructor
  · intro h
    refine ⟨fun s hs => ?_, rising_of (fun s : Si => s.id) l fun j hj h0 => (h j hj hj).2 h0⟩
    obtain ⟨k, hk, rfl⟩ := List.getElem_of_mem hs
    exact (h k hk hk).1
  · rintro ⟨h1, h2⟩ j hj -
    refine ⟨h1 _ (List.getElem_mem hj), fun h0 => ?_⟩
    rw [List.pairwise_iff_getElem] at h2
    exact h2 (j - 1) j (by omega) hj (by omega)
theorem sisTo_no {l : List Si} {k : Nat} (hk : k < l.length) (h : ¬ (siOk l[k] = true ∧ ∀ h0 : 0 < k, (l[k - 1]'(by omega)).id < l[k].id)) : ¬ sisOk l := fun h2 => h ((sisTo_all.2 h2) k hk hk)
theorem sisTo_yes {l : List Si} {k : Nat} (h : sisTo l k) (hk : k < l.length) (h2 : siOk l[k] = true) (h3 : ∀ h0 : 0 < k, (l[k - 1]'(by omega)).id < l[k].id) : sisTo l (k + 1) := fun j hj hlt => by
  by_cases e : j = k
  · subst e; exact ⟨h2, h3⟩
  · exact h j hj (by omega)
def cap : List Si → Int → Int
  | [], _ => 0
  | s :: l, i => if s.id = i then s.cp else cap l i
theorem cap_cases (l : List Si) (i : Int) : (cap l i = 0 ∧ ∀ s ∈ l, s.id ≠ i ∨ s.cp = 0) ∨ ∃ k, ∃ h : k < l.length, l[k].id = i ∧ cap l i = l[k].cp ∧ ∀ j (hj : j < l.length), j < k → l[j].id ≠ i := by
  induction l with
  | nil => exact .inl ⟨rfl, by simp⟩
  | cons s l ih =>
    by_cases e : s.id = i
    · refine .inr ⟨0, by simp, e, by simp [cap, e], fun j _ h => absurd h (by omega)⟩
    · rcases ih with ⟨h1, h2⟩ | ⟨k, hk, h1, h2, h3⟩
      · refine .inl ⟨by simp [cap, e, h1], fun s' hs => ?_⟩
        rcases List.mem_cons.1 hs with rfl | hs
        · exact .inl e
        · exact h2 s' hs
      · refine .inr ⟨k + 1, by simp; omega, by simpa using h1, by simpa [cap, e] using h2, fun j hj hjk => ?_⟩
        cases j with
        | zero => simpa using e
        | succ j => simpa using h3 j (by simpa using hj) (by omega)
theorem cap_bd {l : List Si} (h : sisOk l) (i : Int) : 0 ≤ cap l i ∧ cap l i ≤ 64 := by
  rcases cap_cases l i with ⟨h1, -⟩ | ⟨k, hk, -, h2, -⟩
  · omega
  · have := siOk_iff.1 (h.1 _ (List.getElem_mem hk))
    omega
theorem cap_hit {l : List Si} {i : Int} {k : Nat} (hk : k < l.length) (h : l[k].id = i) (hn : ∀ j (hj : j < l.length), j < k → l[j].id ≠ i) : cap l i = l[k].cp := by
  induction l generalizing k with
  | nil => simp at hk
  | cons s l ih =>
    cases k with
    | zero => simp at h; simp [cap, h]
    | succ k =>
      have h0 := hn 0 (by simp) (by omega)
      simp at h0
      simp only [cap, if_neg h0, List.getElem_cons_succ]
      exact ih (by simpa using hk) (by simpa using h) fun j hj hjk => hn (j + 1) (by simpa using hj) (by omega)
theorem cap_miss {l : List Si} {i : Int} (hn : ∀ j (hj : j < l.length), l[j].id ≠ i) : cap l i = 0 := by
  rcases cap_cases l i with ⟨h1, -⟩ | ⟨k, hk, h1, -, -⟩
  · exact h1
  · exact absurd h1 (hn k hk)
theorem cap_ne {l : List Si} (h : sisOk l) {i : Int} {k : Nat} (hk : k < l.length) (e : l[k].id = i) : 1 ≤ cap l i := by
  rcases cap_cases l i with ⟨-, h2⟩ | ⟨j, hj, h1, h2, h3⟩
  · have h4 := siOk_iff.1 (h.1 _ (List.getElem_mem hk))
    rcases h2 _ (List.getElem_mem hk) with h5 | h5
    · exact absurd e h5
    · omega
  · have := siOk_iff.1 (h.1 _ (List.getElem_mem hj))
    omega
abbrev Pl := Bool × Int
def plc (m : Mv) (c : Bool) : Pl := (c, if c = true then m.cr else m.tw)
theorem plc_f (m : Mv) : plc m false = (false, m.tw) := rfl
theorem plc_t (m : Mv) : plc m true = (true, m.cr) := rfl
def pcap (T C : List Si) (p : Pl) : Int := if p.1 = true then cap C p.2 else cap T p.2
theorem pcap_f (T C : List Si) (i : Int) : pcap T C (false, i) = cap T i := rfl
theorem pcap_t (T C : List Si) (i : Int) : pcap T C (true, i) = cap C i := rfl
def twOk (l : List Mv) (T C : List Si) : Prop := mvsOk l ∧ sisOk T ∧ sisOk C
def twAll (l : List Mv) (T C : List Si) : Prop := ∀ m ∈ l, cap T m.tw ≠ 0 ∧ cap C m.cr ≠ 0
def twIs (l : List Mv) (T C : List Si) (er : Int) : Prop := (twOk l T C ∧ twAll l T C ∧ er = 0) ∨ (twOk l T C ∧ ¬ twAll l T C ∧ er = 9) ∨ (¬ twOk l T C ∧ er = 2)
theorem pcap_bd {T C : List Si} (hT : sisOk T) (hC : sisOk C) (p : Pl) : 0 ≤ pcap T C p ∧ pcap T C p ≤ 64 := by
  unfold pcap; split
  · exact cap_bd hC _
  · exact cap_bd hT _
theorem pcap_pos {T C : List Si} {l : List Mv} (h : twOk l T C) (ha : twAll l T C) {m : Mv} (hm : m ∈ l) (c : Bool) : 1 ≤ pcap T C (plc m c) ∧ pcap T C (plc m c) ≤ 64 := by
  have := pcap_bd h.2.1 h.2.2 (plc m c)
  have h2 := ha m hm
  cases c
  · rw [plc_f] at *; rw [pcap_f] at *; omega
  · rw [plc_t] at *; rw [pcap_t] at *; omega
def wkN (m : Mv) : Nat := m.wk.toNat
def usd (ws : List (Mv × Nat)) (p : Pl) (w : Nat) : Nat := (ws.filter fun x => decide (plc x.1 p.1 = p) && (decide (x.2 ≤ w) && decide (w < x.2 + wkN x.1))).length
def fullW (T C : List Si) (ws : List (Mv × Nat)) (m : Mv) (w : Nat) : Bool := decide (pcap T C (plc m false) ≤ usd ws (plc m false) w) || decide (pcap T C (plc m true) ≤ usd ws (plc m true) w)
def fre (full : Nat → Bool) (n s : Nat) : Bool := (List.range n).all fun j => !full (s + j)
theorem fre_iff {full : Nat → Bool} {n s : Nat} : fre full n s = true ↔ ∀ w, s ≤ w → w < s + n → full w = false := by
  unfold fre
  rw [List.all_eq_true]
  constructor
  · intro h w h1 h2
    have := h (w - s) (List.mem_range.2 (by omega))
    rw [show s + (w - s) = w by omega] at this
    simpa using this
  · intro h j hj
    rw [h (s + j) (by omega) (by have := List.mem_range.1 hj; omega)]
    rfl
def est (full : Nat → Bool) (n B : Nat) : Nat := ((List.range (B + 1)).find? fun s => fre full n s).getD B
theorem est_spec {full : Nat → Bool} {n B : Nat} (h : fre full n B = true) : est full n B ≤ B ∧ fre full n (est full n B) = true ∧ ∀ s, s < est full n B → fre full n s = false := by
  unfold est
  cases hf : (List.range (B + 1)).find? fun s => fre full n s with
  | none =>
    have := (List.find?_eq_none.1 hf) B (List.mem_range.2 (by omega))
    exact absurd h this
  | some s =>
    simp only [Option.getD_some]
    obtain ⟨h1, i, hi, h2, h3⟩ := List.find?_eq_some_iff_getElem.1 hf
    have hi' : i < B + 1 := by simpa using hi
    simp only [List.getElem_range] at h2 h3
    subst h2
    exact ⟨by omega, h1, fun s hs => by simpa using h3 s hs⟩
theorem est_eq {full : Nat → Bool} {n B s : Nat} (hs : fre full n s = true) (hB : fre full n B = true) (hl : ∀ t, t < s → fre full n t = false) : s = est full n B := by
  obtain ⟨-, h2, h3⟩ := est_spec hB
  rcases Nat.lt_trichotomy s (est full n B) with h | h | h
  · have := h3 s h; rw [hs] at this; cases this
  · exact h
  · have := hl _ h; rw [h2] at this; cases this
def span (ws : List (Mv × Nat)) : Nat := (ws.map fun x => wkN x.1).sum
def wstep (T C : List Si) (ws : List (Mv × Nat)) (m : Mv) : List (Mv × Nat) := ws ++ [(m, est (fullW T C ws m) (wkN m) (span ws))]
def wks (T C : List Si) (l : List Mv) : List (Mv × Nat) := l.foldl (wstep T C) []
theorem wks_snoc (T C : List Si) (l : List Mv) (m : Mv) : wks T C (l ++ [m]) = wstep T C (wks T C l) m := by unfold wks; rw [List.foldl_append]; rfl
theorem span_snoc (ws : List (Mv × Nat)) (x : Mv × Nat) : span (ws ++ [x]) = span ws + wkN x.1 := by unfold span; simp
theorem usd_snoc (ws : List (Mv × Nat)) (x : Mv × Nat) (p : Pl) (w : Nat) : usd (ws ++ [x]) p w = usd ws p w + if plc x.1 p.1 = p ∧ x.2 ≤ w ∧ w < x.2 + wkN x.1 then 1 else 0 := by
  unfold usd
  rw [List.filter_append, List.length_append]
  congr 1
  by_cases h : plc x.1 p.1 = p ∧ x.2 ≤ w ∧ w < x.2 + wkN x.1
  · rw [if_pos h, List.filter_cons_of_pos (by simp [h.1, h.2.1, h.2.2])]; rfl
  · rw [if_neg h, List.filter_cons_of_neg (by simp only [Bool.and_eq_true, decide_eq_true_eq]; exact h)]; rfl
theorem usd_far {ws : List (Mv × Nat)} (h : ∀ x ∈ ws, x.2 + wkN x.1 ≤ span ws) (p : Pl) {w : Nat} (hw : span ws ≤ w) : usd ws p w = 0 := by
  unfold usd
  rw [List.length_eq_zero_iff, List.filter_eq_nil_iff]
  intro x hx
  have := h x hx
  simp only [Bool.and_eq_true, decide_eq_true_eq]
  omega
theorem fre_span {T C : List Si} {ws : List (Mv × Nat)} {m : Mv} (hp : ∀ c, 1 ≤ pcap T C (plc m c)) (h : ∀ x ∈ ws, x.2 + wkN x.1 ≤ span ws) (n : Nat) : fre (fullW T C ws m) n (span ws) = true := by
  rw [fre_iff]
  intro w h1 _
  have a := hp false
  have b := hp true
  unfold fullW
  rw [usd_far h _ h1, usd_far h _ h1]
  simp only [Bool.or_eq_false_iff, decide_eq_false_iff_not]
  omega
theorem wks_inv {T C : List Si} : ∀ {l : List Mv} (_ : ∀ m ∈ l, ∀ c, 1 ≤ pcap T C (plc m c)), (∀ x ∈ wks T C l, x.2 + wkN x.1 ≤ span (wks T C l)) ∧ (wks T C l).map (·.1) = l ∧ (∀ p w, (usd (wks T C l) p w : Int) ≤ max (pcap T C p) 0) ∧ span (wks T C l) = (l.map wkN).sum := by
  intro l
  induction l using snocRec with
  | nil => intro _; exact ⟨by simp [wks], rfl, fun p w => by simp [wks, usd]; omega, rfl⟩
  | snoc l m ih =>
    intro h
    obtain ⟨i1, i2, i3, i4⟩ := ih fun x hx => h x (List.mem_append.2 (.inl hx))
    have hm := h m (by simp)
    obtain ⟨e1, e2, e3⟩ := est_spec (fre_span hm i1 (wkN m))
    rw [wks_snoc]
    unfold wstep
    refine ⟨fun x hx => ?_, by rw [List.map_append, i2]; rfl, fun p w => ?_, by rw [span_snoc, i4]; simp⟩
    · rw [span_snoc]
      rcases List.mem_append.1 hx with hx | hx
      · have := i1 x hx; omega
      · rw [List.mem_singleton.1 hx]; simp only; omega
    · rw [usd_snoc]
      have := i3 p w
      split
      · rename_i hc
        obtain ⟨c1, c2, c3⟩ := hc
        have hfw := fre_iff.1 e2 w c2 c3
        unfold fullW at hfw
        simp only [Bool.or_eq_false_iff, decide_eq_false_iff_not] at hfw
        simp only at c1
        rw [← c1]
        rcases hb : p.1 with _ | _
        · have := hfw.1; omega
        · have := hfw.2; omega
      · omega
def wlen (ws : List (Mv × Nat)) : Nat := ws.foldl (fun n x => max n (x.2 + wkN x.1)) 0
theorem wlen_snoc (ws : List (Mv × Nat)) (x : Mv × Nat) : wlen (ws ++ [x]) = max (wlen ws) (x.2 + wkN x.1) := by unfold wlen; rw [List.foldl_append]; rfl
end M
end Go.Proofs.YtpkepgcmifdpfaaGreatDoor
end

section
namespace Go.Proofs.YtpkepgcmifdpfaaGreatDoor
open Go
namespace M
def idx (l : List Mv) (st : Int) : Option Nat := (List.range l.length).find? fun i => match l[i]? with | some m => decide (m.st = st) | none => false
theorem idx_some {l : List Mv} {st : Int} {i : Nat} (h : idx l st = some i) : ∃ hi : i < l.length, l[i].st = st := by
 have h1 := List.mem_of_find?_eq_some h
 have hi : i < l.length := by simpa using h1
 have h2 := List.find?_some h
 rw [List.getElem?_eq_getElem hi] at h2
 exact ⟨hi, by simpa using h2⟩
theorem idx_at {l : List Mv} (hp : l.Pairwise fun x y => x.st < y.st) {i : Nat} (hi : i < l.length) : idx l l[i].st = some i := by
 cases h : idx l l[i].st with
 | none =>
  unfold idx at h
  rw [List.find?_eq_none] at h
  have := h i (by simpa using hi)
  rw [List.getElem?_eq_getElem hi] at this
  simp at this
 | some j =>
  obtain ⟨hj, e⟩ := idx_some h
  rw [mvsOk_inj hp hj hi e]
theorem idx_none {l : List Mv} {st : Int} (h : idx l st = none) {i : Nat} (hi : i < l.length) : l[i].st ≠ st := by
 unfold idx at h
 rw [List.find?_eq_none] at h
 have := h i (by simpa using hi)
 rw [List.getElem?_eq_getElem hi] at this
 simpa using this
def flatO : Nat → List (List Int) → List (Nat × Int)
 | _, [] => []
 | k, s :: r => s.map (fun st => (k, st)) ++ flatO (k + 1) r
def place (l : List Mv) : List (Option Nat) → List (Nat × Int) → Option (List (Option Nat))
 | S, [] => some S
 | S, (i, st) :: r =>
  match idx l st with
  | none => none
  | some v => if (S.getD v none).isSome = true then none else place l (S.set v (some i)) r
def setOf (l : List Mv) (order : List (List Int)) : Option (List (Option Nat)) := place l (List.replicate l.length none) (flatO 0 order)
def late (ps : List P5) (l : List Mv) (S : List (Option Nat)) : Bool := (List.range l.length).any fun v => (List.range l.length).any fun w => (Dg.row (rows ps l) v).testBit w && decide ((S.getD v none).getD 0 < (S.getD w none).getD 0)
def legal (ps : List P5) (l : List Mv) (order : List (List Int)) : Int :=
 match setOf l order with
 | none => 2
 | some S => if S.any (fun o => o.isNone) = true then 9 else if late ps l S = true then 10 else 0
def chOf (m : Mv) (moved : Bool) : Ch := ⟨m.st, if moved = true then m.new else m.old⟩
def free (ps : List P5) (l : List Mv) (moved : Nat → Bool) : Prop := ∀ i k (hi : i < l.length) (hk : k < l.length), k < i → forbd ps (chOf l[i] (moved i)) (chOf l[k] (moved k)) = false
end M
end Go.Proofs.YtpkepgcmifdpfaaGreatDoor
end

section
namespace Go.Proofs.YtpkepgcmifdpfaaGreatDoor
open Go
structure Tr where
  ps : List P5
  l : List Mv
  T : List Si
  C : List Si
  lm : Int
  lw : Int
namespace M
def trOk (t : Tr) : Prop := mvsOk t.l ∧ sisOk t.T ∧ sisOk t.C ∧ 1 ≤ t.lm ∧ t.lm ≤ 512 ∧ 1 ≤ t.lw ∧ t.lw ≤ 1048576
def trIs (t : Tr) (er : Int) : Prop := (trOk t ∧ t.ps.length ≤ 20000 ∧ twAll t.l t.T t.C ∧ er = 0) ∨ (trOk t ∧ t.ps.length ≤ 20000 ∧ ¬ twAll t.l t.T t.C ∧ er = 9) ∨ (trOk t ∧ 20000 < t.ps.length ∧ er = 7) ∨ (¬ trOk t ∧ er = 2)
theorem trIs_unique {t : Tr} {a b : Int} (h : trIs t a) (k : trIs t b) : a = b := by
  unfold trIs at h k
  rcases h with ⟨h1, h2, h3, rfl⟩ | ⟨h1, h2, h3, rfl⟩ | ⟨h1, h2, rfl⟩ | ⟨h1, rfl⟩ <;> rcases k with ⟨k1, k2, k3, rfl⟩ | ⟨k1, k2, k3, rfl⟩ | ⟨k1, k2, rfl⟩ | ⟨k1, rfl⟩
  all_goals first | rfl | exact absurd h1 k1 | exact absurd k1 h1 | exact absurd h3 k3 | exact absurd k3 h3 | omega
theorem trIs_zero {t : Tr} (h : trIs t 0) : trOk t ∧ t.ps.length ≤ 20000 ∧ twAll t.l t.T t.C := by
  rcases h with ⟨h1, h2, h3, -⟩ | ⟨-, -, -, h⟩ | ⟨-, -, h⟩ | ⟨-, h⟩
  · exact ⟨h1, h2, h3⟩
  all_goals cases h
def trGood (t : Tr) : Prop := trOk t ∧ t.ps.length ≤ 20000 ∧ twAll t.l t.T t.C
theorem trGood.tw {t : Tr} (h : trGood t) : twOk t.l t.T t.C := ⟨h.1.1, h.1.2.1, h.1.2.2.1⟩
def pick (l : List Mv) (ss : List Int) : List Mv := l.filter fun m => decide (m.st ∈ ss)
theorem pick_sub (l : List Mv) (ss : List Int) : (pick l ss).Sublist l := List.filter_sublist
theorem mvsOk_sub {l l' : List Mv} (h : mvsOk l) (hs : l'.Sublist l) : mvsOk l' := ⟨Nat.le_trans hs.length_le h.1, fun m hm => h.2.1 m (hs.subset hm), h.2.2.sublist hs⟩
theorem twOk_sub {l l' : List Mv} {T C : List Si} (h : twOk l T C) (hs : l'.Sublist l) : twOk l' T C := ⟨mvsOk_sub h.1 hs, h.2⟩
theorem twAll_sub {l l' : List Mv} {T C : List Si} (h : twAll l T C) (hs : l'.Sublist l) : twAll l' T C := fun m hm => h m (hs.subset hm)
def phLen (t : Tr) (ss : List Int) : Nat := wlen (wks t.T t.C (pick t.l ss))
def small (t : Tr) (ss : List Int) : Bool := decide (((pick t.l ss).length : Int) ≤ t.lm) && decide ((phLen t ss : Int) ≤ t.lw)
theorem wkN_le {m : Mv} (h : mvOk m = true) : 1 ≤ wkN m ∧ wkN m ≤ 52 ∧ (wkN m : Int) = m.wk := by
  unfold mvOk at h
  simp only [Bool.and_eq_true, decide_eq_true_eq] at h
  unfold wkN
  omega
theorem sum_wk_le {l : List Mv} (h : ∀ m ∈ l, mvOk m = true) : (l.map wkN).sum ≤ 52 * l.length := by
  induction l with
  | nil => simp
  | cons m l ih =>
    have h1 := (wkN_le (h m (by simp))).2.1
    have h2 := ih fun x hx => h x (by simp [hx])
    simp only [List.map_cons, List.sum_cons, List.length_cons]
    omega
def upN (a b : Nat) : Nat := (a + b - 1) / b
def sumW (l : List Mv) (p : Pl) : Nat := ((l.filter fun m => decide (plc m p.1 = p)).map wkN).sum
theorem sumW_snoc (l : List Mv) (m : Mv) (p : Pl) : sumW (l ++ [m]) p = sumW l p + if plc m p.1 = p then wkN m else 0 := by
  unfold sumW
  rw [List.filter_append, List.map_append, List.sum_append]
  congr 1
  by_cases h : plc m p.1 = p
  · rw [if_pos h, List.filter_cons_of_pos (by simpa using h)]; simp
  · rw [if_neg h, List.filter_cons_of_neg (by simpa using h)]; simp
theorem sumW_le (l : List Mv) (p : Pl) : sumW l p ≤ (l.map wkN).sum := by
  induction l using snocRec with
  | nil => simp [sumW]
  | snoc l m ih =>
    rw [sumW_snoc, List.map_append, List.sum_append]
    simp only [List.map_cons, List.map_nil, List.sum_cons, List.sum_nil]
    split <;> omega
def upP (t : Tr) (p : Pl) : Nat := upN (sumW t.l p) (pcap t.T t.C p * t.lw).toNat
def leastN (t : Tr) : Nat := t.l.foldl (fun n m => max n (max (upP t (plc m false)) (upP t (plc m true)))) (upN t.l.length t.lm.toNat)
theorem foldl_max_le {α : Type} (f : α → Nat) (l : List α) (n0 B : Nat) : l.foldl (fun n m => max n (f m)) n0 ≤ B ↔ n0 ≤ B ∧ ∀ m ∈ l, f m ≤ B := by
  induction l generalizing n0 with
  | nil => simp
  | cons x l ih =>
    rw [List.foldl_cons, ih]
    simp only [List.mem_cons, forall_eq_or_imp]
    rw [Nat.max_le, and_assoc]
theorem leastN_le {t : Tr} {B : Nat} : leastN t ≤ B ↔ upN t.l.length t.lm.toNat ≤ B ∧ ∀ m ∈ t.l, upP t (plc m false) ≤ B ∧ upP t (plc m true) ≤ B := by
  unfold leastN
  rw [foldl_max_le]
  constructor
  · rintro ⟨h1, h2⟩; exact ⟨h1, fun m hm => by have := h2 m hm; omega⟩
  · rintro ⟨h1, h2⟩; exact ⟨h1, fun m hm => by have := h2 m hm; omega⟩
def phPlan (t : Tr) (plan : List (List Int)) : Int :=
  if legal t.ps t.l plan ≠ 0 then legal t.ps t.l plan else if plan.all (fun s => !s.isEmpty) = true then (if plan.all (small t) = true then 0 else 490) else 2
end M
end Go.Proofs.YtpkepgcmifdpfaaGreatDoor
end

section
namespace Go.Proofs.YtpkepgcmifdpfaaGreatDoor
open Go
namespace M
def gIxN (gs : List (List Int)) (s : Int) : Nat → Nat
  | 0 => 0
  | k + 1 => if s ∈ gs.getD k [] then k else gIxN gs s k
def gIx (gs : List (List Int)) (s : Int) : Nat := gIxN gs s gs.length
theorem gIxN_le (gs : List (List Int)) (s : Int) (k : Nat) : gIxN gs s k ≤ k - 1 := by
  induction k with
  | zero => exact Nat.le_refl _
  | succ k ih => unfold gIxN; split <;> omega
theorem gIx_lt {gs : List (List Int)} (h : 0 < gs.length) (s : Int) : gIx gs s < gs.length := by
  have := gIxN_le gs s gs.length
  unfold gIx
  omega
def wStep (f : Int → Nat) (W : List (List Int)) (e : Int × Int) : List (List Int) :=
  if f e.1 ≠ f e.2 ∧ ((f e.2 : Nat) : Int) ∉ W.getD (f e.1) [] then W.set (f e.1) (W.getD (f e.1) [] ++ [((f e.2 : Nat) : Int)]) else W
def wts (gs : List (List Int)) (es : List (Int × Int)) : List (List Int) := es.foldl (wStep (gIx gs)) (List.replicate gs.length [])
theorem wts_snoc (gs : List (List Int)) (es : List (Int × Int)) (e : Int × Int) : wts gs (es ++ [e]) = wStep (gIx gs) (wts gs es) e := by unfold wts; rw [List.foldl_append]; rfl
theorem wStep_len (f : Int → Nat) (W : List (List Int)) (e : Int × Int) : (wStep f W e).length = W.length := by unfold wStep; split <;> simp
theorem wts_len (gs : List (List Int)) (es : List (Int × Int)) : (wts gs es).length = gs.length := by
  induction es using snocRec with
  | nil => simp [wts]
  | snoc es e ih => rw [wts_snoc, wStep_len, ih]
theorem getD_set {W : List (List Int)} {i k : Nat} {r : List Int} (hi : i < W.length) : (W.set i r).getD k [] = if k = i then r else W.getD k [] := by
  rw [List.getD_eq_getElem?_getD, List.getD_eq_getElem?_getD, List.getElem?_set]
  by_cases e : i = k
  · subst e; simp [hi]
  · rw [if_neg e, if_neg (fun h => e h.symm)]
theorem wStep_row (f : Int → Nat) (W : List (List Int)) (e : Int × Int) (hf : f e.1 < W.length) (k : Nat) : (wStep f W e).getD k [] = if k = f e.1 ∧ f e.1 ≠ f e.2 ∧ ((f e.2 : Nat) : Int) ∉ W.getD k [] then W.getD k [] ++ [((f e.2 : Nat) : Int)] else W.getD k [] := by
  unfold wStep
  by_cases h : f e.1 ≠ f e.2 ∧ ((f e.2 : Nat) : Int) ∉ W.getD (f e.1) []
  · rw [if_pos h, getD_set hf]
    by_cases hk : k = f e.1
    · subst hk; rw [if_pos rfl, if_pos ⟨rfl, h⟩]
    · rw [if_neg hk, if_neg (fun h2 => hk h2.1)]
  · rw [if_neg h, if_neg]
    rintro ⟨rfl, h2⟩
    exact h h2
theorem mem_wts {gs : List (List Int)} {es : List (Int × Int)} {i : Nat} {x : Int} (h0 : 0 < gs.length) : x ∈ (wts gs es).getD i [] ↔ ∃ e ∈ es, gIx gs e.1 = i ∧ gIx gs e.1 ≠ gIx gs e.2 ∧ ((gIx gs e.2 : Nat) : Int) = x := by
  induction es using snocRec with
  | nil =>
    unfold wts
    simp only [List.foldl_nil, List.not_mem_nil, false_and, exists_false, iff_false]
    rw [List.getD_eq_getElem?_getD, List.getElem?_replicate]
    split <;> simp
  | snoc es e ih =>
    rw [wts_snoc, wStep_row _ _ _ (by rw [wts_len]; exact gIx_lt h0 _)]
    have hsn : (∃ e' ∈ es ++ [e], gIx gs e'.1 = i ∧ gIx gs e'.1 ≠ gIx gs e'.2 ∧ ((gIx gs e'.2 : Nat) : Int) = x) ↔ (∃ e' ∈ es, gIx gs e'.1 = i ∧ gIx gs e'.1 ≠ gIx gs e'.2 ∧ ((gIx gs e'.2 : Nat) : Int) = x) ∨ (gIx gs e.1 = i ∧ gIx gs e.1 ≠ gIx gs e.2 ∧ ((gIx gs e.2 : Nat) : Int) = x) := by
      constructor
      · rintro ⟨e', he, h⟩
        rcases List.mem_append.1 he with h1 | h1
        · exact .inl ⟨e', h1, h⟩
        · rw [List.mem_singleton.1 h1] at h; exact .inr h
      · rintro (⟨e', he, h⟩ | h)
        · exact ⟨e', List.mem_append.2 (.inl he), h⟩
        · exact ⟨e, by simp, h⟩
    rw [hsn, ← ih]
    split
    · rename_i hc
      obtain ⟨rfl, h2, h3⟩ := hc
      rw [List.mem_append, List.mem_singleton]
      constructor
      · rintro (h | h)
        · exact .inl h
        · exact .inr ⟨rfl, h2, h.symm⟩
      · rintro (h | ⟨-, -, h⟩)
        · exact .inl h
        · exact .inr h.symm
    · rename_i hc
      constructor
      · exact .inl
      · rintro (h | ⟨rfl, h2, h3⟩)
        · exact h
        · by_cases hm : x ∈ (wts gs es).getD (gIx gs e.1) []
          · exact hm
          · exact absurd ⟨rfl, h2, by rw [h3]; exact hm⟩ hc
theorem wts_row_len (gs : List (List Int)) (es : List (Int × Int)) (k : Nat) : ((wts gs es).getD k []).length ≤ es.length := by
  induction es using snocRec with
  | nil =>
    unfold wts
    simp only [List.foldl_nil]
    rw [List.getD_eq_getElem?_getD, List.getElem?_replicate]
    split <;> simp
  | snoc es e ih =>
    rw [wts_snoc]
    by_cases h0 : gIx gs e.1 < (wts gs es).length
    · rw [wStep_row _ _ _ h0]
      split <;> simp only [List.length_append, List.length_cons, List.length_nil] <;> omega
    · unfold wStep
      split
      · rw [List.set_eq_of_length_le (by omega)]; simp only [List.length_append, List.length_cons, List.length_nil]; omega
      · simp only [List.length_append, List.length_cons, List.length_nil]; omega
end M
end Go.Proofs.YtpkepgcmifdpfaaGreatDoor
end

section
namespace Go.Proofs.YtpkepgcmifdpfaaGreatDoor
open Go
namespace M
abbrev Tb := Nat → Nat → Bool
def upd (f : Tb) (i k : Nat) (v : Bool) : Tb := fun a b => if a = i ∧ b = k then v else f a b
def stepM (i k : Nat) (f : Tb) (m : Nat) : Tb := if (f i m && f m k) = true then upd f i k true else f
def stepK (n i : Nat) (f : Tb) (k : Nat) : Tb := (List.range n).foldl (stepM i k) f
def stepI (n : Nat) (f : Tb) (i : Nat) : Tb := (List.range n).foldl (stepK n i) f
def turnT (n : Nat) (f : Tb) : Tb := (List.range n).foldl (stepI n) f
def turnsT (n : Nat) : Nat → Tb → Tb
  | 0, f => f
  | t + 1, f => turnT n (turnsT n t f)
def dep0 (R : List Nat) : Tb := fun i k => (Dg.row R i).testBit k
def dep (R : List Nat) : Tb := turnsT R.length R.length (dep0 R)
def leT (f g : Tb) : Prop := ∀ a b, f a b = true → g a b = true
theorem leT.trans {f g h : Tb} (h1 : leT f g) (h2 : leT g h) : leT f h := fun a b x => h2 a b (h1 a b x)
theorem fold_le {β : Type} {step : Tb → β → Tb} (hm : ∀ g x, leT g (step g x)) : ∀ (l : List β) (g : Tb), leT g (l.foldl step g)
  | [], _ => fun _ _ h => h
  | x :: l, g => (hm g x).trans (fold_le hm l _)
theorem fold_has {β : Type} {step : Tb → β → Tb} (hm : ∀ g x, leT g (step g x)) {f0 : Tb} {x : β} {a b : Nat} (h : ∀ g, leT f0 g → step g x a b = true) : ∀ {l : List β}, x ∈ l → ∀ g, leT f0 g → (l.foldl step g) a b = true
  | y :: l, hx, g, hg => by
    rw [List.foldl_cons]
    rcases List.mem_cons.1 hx with rfl | hx
    · exact fold_le hm l _ a b (h g hg)
    · exact fold_has hm h hx _ (hg.trans (hm g y))
theorem fold_snd {β : Type} {step : Tb → β → Tb} {Q : Nat → Nat → Prop} (hs : ∀ g x, (∀ a b, g a b = true → Q a b) → ∀ a b, step g x a b = true → Q a b) : ∀ (l : List β) (g : Tb), (∀ a b, g a b = true → Q a b) → ∀ a b, (l.foldl step g) a b = true → Q a b
  | [], _, h => h
  | x :: l, g, h => fold_snd hs l _ (hs g x h)
theorem stepM_le (i k : Nat) (g : Tb) (m : Nat) : leT g (stepM i k g m) := fun a b h => by
  unfold stepM
  split
  · unfold upd; split
    · rfl
    · exact h
  · exact h
theorem stepK_le (n i : Nat) (g : Tb) (k : Nat) : leT g (stepK n i g k) := fold_le (stepM_le i k) _ g
theorem stepI_le (n : Nat) (g : Tb) (i : Nat) : leT g (stepI n g i) := fold_le (stepK_le n i) _ g
theorem turnT_le (n : Nat) (g : Tb) : leT g (turnT n g) := fold_le (stepI_le n) _ g
theorem turnT_has {n : Nat} {f : Tb} {i k m : Nat} (hi : i < n) (hk : k < n) (hm : m < n) (h1 : f i m = true) (h2 : f m k = true) : turnT n f i k = true := by
  refine fold_has (stepI_le n) (f0 := f) (x := i) (fun g hg => ?_) (List.mem_range.2 hi) f (fun _ _ h => h)
  refine fold_has (stepK_le n i) (f0 := f) (x := k) (fun g hg => ?_) (List.mem_range.2 hk) g hg
  refine fold_has (stepM_le i k) (f0 := f) (x := m) (fun g hg => ?_) (List.mem_range.2 hm) g hg
  unfold stepM
  rw [hg _ _ h1, hg _ _ h2]
  simp [upd]
theorem turnT_snd {n : Nat} {Q : Nat → Nat → Prop} (hQ : ∀ i m k, Q i m → Q m k → Q i k) (g : Tb) (h : ∀ a b, g a b = true → Q a b) : ∀ a b, turnT n g a b = true → Q a b := by
  have s1 : ∀ i k (g : Tb) (m : Nat), (∀ a b, g a b = true → Q a b) → ∀ a b, stepM i k g m a b = true → Q a b := fun i k g m hg a b h => by
    unfold stepM at h
    split at h
    · rename_i hc
      rw [Bool.and_eq_true] at hc
      unfold upd at h
      split at h
      · rename_i e
        obtain ⟨rfl, rfl⟩ := e
        exact hQ _ _ _ (hg _ _ hc.1) (hg _ _ hc.2)
      · exact hg _ _ h
    · exact hg _ _ h
  exact fold_snd (fun g i hg => fold_snd (fun g k hg => fold_snd (s1 i k) _ g hg) _ g hg) _ g h
theorem turnsT_has {R : List Nat} (h : Dg.Ok R) : ∀ (t d i k : Nat), d ≤ t → i < R.length → Dg.Steps R i (d + 1) k → turnsT R.length t (dep0 R) i k = true
  | 0, d, i, k, hd, hi, hs => by
    obtain rfl : d = 0 := by omega
    cases hs with
    | succ h1 h2 => cases h1; exact h2
  | t + 1, d, i, k, hd, hi, hs => by
    by_cases hle : d ≤ t
    · exact turnT_le _ _ _ _ (turnsT_has h t d i k hle hi hs)
    · obtain rfl : d = t + 1 := by omega
      obtain ⟨m, h1, h2⟩ := hs.split
      have hm : m < R.length := (h1.plus).lt h
      have hk : k < R.length := (h2.plus).lt h
      exact turnT_has hi hk hm (turnsT_has h t t i m (Nat.le_refl _) hi h1) (turnsT_has h t 0 m k (Nat.zero_le _) hm h2)
theorem dep_eq {R : List Nat} (h : Dg.Ok R) {i : Nat} (hi : i < R.length) (k : Nat) : dep R i k = Dg.plus R i k := by
  rw [Bool.eq_iff_iff, Dg.plus_iff h]
  constructor
  · have key : ∀ t a b, turnsT R.length t (dep0 R) a b = true → Dg.Plus R a b := by
      intro t
      induction t with
      | zero => exact fun a b h => .one h
      | succ t ih => exact turnT_snd (fun _ _ _ => .trans) _ ih
    exact key _ i k
  · intro hp
    obtain ⟨d, h1, h2⟩ := Dg.plus_steps h hp
    exact turnsT_has h _ d i k h1 hi h2
def inG (d : Tb) (i k : Nat) : Bool := decide (k = i) || (d i k && d k i)
def rdyT (d : Tb) (lst : Nat → Bool) (n i : Nat) : Bool := (List.range n).all fun a => !(inG d i a) || (List.range n).all fun b => !(d a b) || lst b || inG d i b
theorem inG_eq {R : List Nat} (h : Dg.Ok R) {i k : Nat} (hi : i < R.length) (hk : k < R.length) : inG (dep R) i k = Dg.grp R i k := by
  unfold inG Dg.grp
  rw [dep_eq h hi, dep_eq h hk]
theorem all_congr {p q : Nat → Bool} : ∀ {l : List Nat}, (∀ x ∈ l, p x = q x) → l.all p = l.all q
  | [], _ => rfl
  | x :: l, h => by rw [List.all_cons, List.all_cons, h x (by simp), all_congr (fun y hy => h y (by simp [hy]))]
theorem rdyT_eq {R : List Nat} (h : Dg.Ok R) {i : Nat} (hi : i < R.length) {lst : Nat → Bool} {S : Nat} (hl : ∀ j, j < R.length → lst j = S.testBit j) : rdyT (dep R) lst R.length i = Dg.rdy R S i := by
  unfold rdyT Dg.rdy
  refine all_congr fun a ha => ?_
  have ha' := List.mem_range.1 ha
  rw [inG_eq h hi ha']
  congr 1
  refine all_congr fun b hb => ?_
  have hb' := List.mem_range.1 hb
  rw [inG_eq h hi hb', dep_eq h ha', hl b hb']
structure RG (R done left : List Nat) (S : Nat) : Prop where
  inv : Dg.Inv R left S
  eq : Dg.ord R = done ++ Dg.choose R left.length left S
theorem RG.start {R : List Nat} (h : Dg.Ok R) : RG R [] (Dg.leads R) 0 := ⟨Dg.Inv.start h, rfl⟩
theorem RG.full {R done left : List Nat} {S : Nat} (r : RG R done left S) (hs : ∀ j, j < R.length → S.testBit j = true) : Dg.ord R = done := by
  have : left = [] := by
    cases left with
    | nil => rfl
    | cons v left =>
      have hv := (Dg.mem_leads.1 (r.inv.sub v (by simp))).1
      exact absurd (Dg.Same.refl R v) (((r.inv.has v).1 (hs v hv)).2 v (by simp))
  subst this
  rw [r.eq]
  simp [Dg.choose]
theorem RG.at {R done left : List Nat} {S : Nat} (h : Dg.Ok R) (r : RG R done left S) {j : Nat} (hj : j < R.length) (hn : S.testBit j = false) : ∃ v, Dg.rfirst R S = some v ∧ v < R.length ∧ (∀ k, (Dg.scc R v).testBit k = true → S.testBit k = false) ∧ RG R (done ++ [v]) (left.erase v) (S ||| Dg.scc R v) := by
  have hne : left ≠ [] := by
    rintro rfl
    have := (r.inv.has j).2 ⟨hj, fun v hv => by cases hv⟩
    rw [hn] at this; cases this
  obtain ⟨v, hv⟩ := r.inv.found h hne
  have hm := List.mem_of_find?_eq_some hv
  have hvl := (Dg.mem_leads.1 (r.inv.sub v hm)).1
  refine ⟨v, r.inv.same h hv, hvl, fun k hk => ?_, r.inv.next h hv, ?_⟩
  · cases hb : S.testBit k with
    | false => rfl
    | true => exact absurd ((Dg.scc_bit h hvl k).1 hk) (((r.inv.has k).1 hb).2 v hm)
  · have hl := List.length_erase_of_mem hm
    have hp := List.length_pos_of_mem hm
    rw [r.eq, show left.length = (left.erase v).length + 1 by omega]
    conv => lhs; unfold Dg.choose
    rw [hv]
    simp
def cntB (n : Nat) (g : Nat → Bool) : Nat := ((List.range n).filter g).length
def setB (g : Nat → Bool) (k : Nat) : Nat → Bool := fun j => if j = k then true else g j
theorem cntB_lt {n : Nat} {g : Nat → Bool} (h : cntB n g < n) : ∃ j, j < n ∧ g j = false := by
  apply Classical.byContradiction
  intro hn
  have ha : ∀ j, j < n → g j = true := fun j hj => by
    cases hb : g j with
    | true => rfl
    | false => exact absurd ⟨j, hj, hb⟩ hn
  have : cntB n g = n := by
    unfold cntB
    rw [List.filter_eq_self.2 (fun j hj => ha j (List.mem_range.1 hj)), List.length_range]
  omega
end M
end Go.Proofs.YtpkepgcmifdpfaaGreatDoor
end
