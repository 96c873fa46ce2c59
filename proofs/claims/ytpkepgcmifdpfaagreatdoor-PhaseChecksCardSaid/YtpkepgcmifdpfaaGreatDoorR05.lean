/- A bundle of texts: Fo1. -/
import Derived.Test.YtpkepgcmifdpfaaGreatDoorR04
import Derived.Test.YtpkepgcmifdpfaaGreatDoorR01
import Derived.Test.YtpkepgcmifdpfaaGreatDoorProg
import Derived.RegionTactic
section
namespace Go.Proofs.YtpkepgcmifdpfaaGreatDoor
open Go Go.RowKit
set_option maxRecDepth 100000
abbrev chc (c : Ch) : Array Value := #[.int .i64 c.st, .int .i64 c.ch]
abbrev chv (c : Ch) : Value := .agg (chc c)
abbrev mvc (m : Mv) : Array Value := #[.int .i64 m.st, .int .i64 m.old, .int .i64 m.new, .int .i64 m.tw, .int .i64 m.cr, .int .i64 m.wk]
abbrev mvv (m : Mv) : Value := .agg (mvc m)
theorem Box.c5' {w : World} {b' : Nat} {t : TypeId} {a b c d e : Value} (h : Box w b' #[a, b, c, d, e] t) : w.cell? ⟨b', 0, none⟩ = some a ∧ w.cell? ⟨b', 1, none⟩ = some b ∧ w.cell? ⟨b', 2, none⟩ = some c ∧ w.cell? ⟨b', 3, none⟩ = some d ∧ w.cell? ⟨b', 4, none⟩ = some e := ⟨h.cell 0 rfl, h.cell 1 rfl, h.cell 2 rfl, h.cell 3 rfl, h.cell 4 rfl⟩
theorem Box.c6' {w : World} {b' : Nat} {t : TypeId} {a b c d e f : Value} (h : Box w b' #[a, b, c, d, e, f] t) : w.cell? ⟨b', 0, none⟩ = some a ∧ w.cell? ⟨b', 1, none⟩ = some b ∧ w.cell? ⟨b', 2, none⟩ = some c ∧ w.cell? ⟨b', 3, none⟩ = some d ∧ w.cell? ⟨b', 4, none⟩ = some e ∧ w.cell? ⟨b', 5, none⟩ = some f := ⟨h.cell 0 rfl, h.cell 1 rfl, h.cell 2 rfl, h.cell 3 rfl, h.cell 4 rfl, h.cell 5 rfl⟩
theorem Sl.p5s {w : World} {B : Nat} {A : Option Addr} {ps : List P5} {k : Nat} (h : Sl 5 p5cell w B A ps) (hk : k < ps.length) :
    ∃ la, A = some la ∧ (la.add (k * 5)).block < B ∧ w.cell? (la.add (k * 5)) = some (.int .i64 ps[k].a) ∧ w.cell? ⟨(la.add (k * 5)).block, (la.add (k * 5)).off + 1, none⟩ = some (.int .i64 ps[k].b) ∧ w.cell? ⟨(la.add (k * 5)).block, (la.add (k * 5)).off + 2, none⟩ = some (.int .i64 ps[k].c) ∧ w.cell? ⟨(la.add (k * 5)).block, (la.add (k * 5)).off + 3, none⟩ = some (.int .i64 ps[k].d) ∧ w.cell? ⟨(la.add (k * 5)).block, (la.add (k * 5)).off + 4, none⟩ = some (.int .i64 ps[k].e) := by
  obtain ⟨ad, e, hb, h0, hj⟩ := h.sp (by decide) hk
  exact ⟨ad, e, hb, h0, hj 1 (by decide) (by decide), hj 2 (by decide) (by decide), hj 3 (by decide) (by decide), hj 4 (by decide) (by decide)⟩
set_option maxHeartbeats 8000000 in
theorem hits_ok (p : P5) (a b : Ch) (w : World) : Calls Tryz.prog 158 #[p5v p, chv a, chv b] w fun e w' => e = .returned (.bool (M.hit p a b)) ∧ Below w.heap.size w w' := by
  obtain ⟨V, HW, x0, x1, x2, hB, -⟩ := boxes3 w (p5c p) 190 (chc a) 160 (chc b) 160
  obtain ⟨c0, c1, c2, c3, c4⟩ := x0.c5'
  obtain ⟨d0, d1⟩ := x1.c2
  obtain ⟨e0, e1⟩ := x2.c2
  by_cases h0 : p.a = a.st
  case neg =>
    have q0 : (p.a == a.st) = false := by simpa using h0
    have HF : Hid (M.hit p a b = false) := Lib.hid (by unfold M.hit; simp [h0])
    clear h0
    have hV := HW.out
    go_enter Tryz.func158, Tryz.ntmps158
    go_wp2_with fail
    go_ret
    exact ⟨by rw [HF.out]; rfl, hB⟩
  have q0 : (p.a == a.st) = true := by simpa using h0
  have H0 := Lib.hid h0
  clear h0
  by_cases h1 : p.b = b.st
  case neg =>
    have q1 : (p.b == b.st) = false := by simpa using h1
    have HF : Hid (M.hit p a b = false) := Lib.hid (by unfold M.hit; simp [H0.out, h1])
    clear h1
    have hV := HW.out
    go_enter Tryz.func158, Tryz.ntmps158
    go_wp2_with fail
    go_ret
    exact ⟨by rw [HF.out]; rfl, hB⟩
  have q1 : (p.b == b.st) = true := by simpa using h1
  have H1 := Lib.hid h1
  clear h1
  by_cases h2 : p.d ≤ a.ch
  case neg =>
    have q2 : decide (p.d ≤ a.ch) = false := decide_eq_false h2
    have HF : Hid (M.hit p a b = false) := Lib.hid (by unfold M.hit; simp [H0.out, H1.out, h2])
    clear h2
    have hV := HW.out
    go_enter Tryz.func158, Tryz.ntmps158
    go_wp2_with fail
    go_ret
    exact ⟨by rw [HF.out]; rfl, hB⟩
  have q2 : decide (p.d ≤ a.ch) = true := decide_eq_true h2
  have H2 := Lib.hid h2
  clear h2
  by_cases h3 : a.ch ≤ p.e
  case neg =>
    have q3 : decide (a.ch ≤ p.e) = false := decide_eq_false h3
    have HF : Hid (M.hit p a b = false) := Lib.hid (by unfold M.hit; simp [H0.out, H1.out, H2.out, h3])
    clear h3
    have hV := HW.out
    go_enter Tryz.func158, Tryz.ntmps158
    go_wp2_with fail
    go_ret
    exact ⟨by rw [HF.out]; rfl, hB⟩
  have q3 : decide (a.ch ≤ p.e) = true := decide_eq_true h3
  have H3 := Lib.hid h3
  clear h3
  by_cases h4 : b.ch = IntKind.i64.wrap (a.ch + p.c)
  case neg =>
    have q4 : (b.ch == wrap64 (a.ch + p.c)) = false := by rw [show wrap64 (a.ch + p.c) = IntKind.i64.wrap (a.ch + p.c) from (IntWalk.i64_left _).symm]; simpa using h4
    have HF : Hid (M.hit p a b = false) := Lib.hid (by unfold M.hit; simp [H0.out, H1.out, H2.out, H3.out, h4])
    clear h4
    have hV := HW.out
    go_enter Tryz.func158, Tryz.ntmps158
    go_wp2_with fail
    go_ret
    exact ⟨by rw [HF.out]; rfl, hB⟩
  have q4 : (b.ch == wrap64 (a.ch + p.c)) = true := by rw [show wrap64 (a.ch + p.c) = IntKind.i64.wrap (a.ch + p.c) from (IntWalk.i64_left _).symm]; simpa using h4
  have H4 := Lib.hid h4
  clear h4
  have HF : Hid (M.hit p a b = true) := Lib.hid (by unfold M.hit; simp [H0.out, H1.out, H2.out, H3.out, H4.out])
  have hV := HW.out
  go_enter Tryz.func158, Tryz.ntmps158
  go_wp2_with fail
  go_ret
  exact ⟨by rw [HF.out]; rfl, hB⟩
set_option maxHeartbeats 8000000 in
theorem one_ok (p : P5) (a b : Ch) (w : World) : Calls Tryz.prog 114 #[p5v p, .int .i64 a.st, .int .i64 a.ch, .int .i64 b.st, .int .i64 b.ch] w fun e w' => e = .returned (.bool (M.one p a b)) ∧ Below w.heap.size w w' := by
  obtain ⟨V, HW, x0, hB, -⟩ := boxes1 w (p5c p) 190
  obtain ⟨c0, c1, c2, c3, c4⟩ := x0.c5'
  by_cases h0 : p.a = a.st
  case neg =>
    have q0 : (p.a == a.st) = false := by simpa using h0
    have HF : Hid (M.one p a b = false) := Lib.hid (by unfold M.one; simp [h0])
    clear h0
    have hV := HW.out
    go_enter Tryz.func114, Tryz.ntmps114
    go_wp2_with fail
    go_ret
    exact ⟨by rw [HF.out]; rfl, hB⟩
  have q0 : (p.a == a.st) = true := by simpa using h0
  have H0 := Lib.hid h0
  clear h0
  by_cases h1 : p.b = b.st
  case neg =>
    have q1 : (p.b == b.st) = false := by simpa using h1
    have HF : Hid (M.one p a b = false) := Lib.hid (by unfold M.one; simp [H0.out, h1])
    clear h1
    have hV := HW.out
    go_enter Tryz.func114, Tryz.ntmps114
    go_wp2_with fail
    go_ret
    exact ⟨by rw [HF.out]; rfl, hB⟩
  have q1 : (p.b == b.st) = true := by simpa using h1
  have H1 := Lib.hid h1
  clear h1
  by_cases h2 : p.d ≤ a.ch
  case neg =>
    have q2 : decide (p.d ≤ a.ch) = false := decide_eq_false h2
    have HF : Hid (M.one p a b = false) := Lib.hid (by unfold M.one; simp [H0.out, H1.out, h2])
    clear h2
    have hV := HW.out
    go_enter Tryz.func114, Tryz.ntmps114
    go_wp2_with fail
    go_ret
    exact ⟨by rw [HF.out]; rfl, hB⟩
  have q2 : decide (p.d ≤ a.ch) = true := decide_eq_true h2
  have H2 := Lib.hid h2
  clear h2
  by_cases h3 : a.ch ≤ p.e
  case neg =>
    have q3 : decide (a.ch ≤ p.e) = false := decide_eq_false h3
    have HF : Hid (M.one p a b = false) := Lib.hid (by unfold M.one; simp [H0.out, H1.out, H2.out, h3])
    clear h3
    have hV := HW.out
    go_enter Tryz.func114, Tryz.ntmps114
    go_wp2_with fail
    go_ret
    exact ⟨by rw [HF.out]; rfl, hB⟩
  have q3 : decide (a.ch ≤ p.e) = true := decide_eq_true h3
  have H3 := Lib.hid h3
  clear h3
  by_cases h4 : IntKind.i64.wrap (b.ch - a.ch) = p.c
  case neg =>
    have q4 : (wrap64 (b.ch - a.ch) == p.c) = false := by rw [show wrap64 (b.ch - a.ch) = IntKind.i64.wrap (b.ch - a.ch) from (IntWalk.i64_left _).symm]; simpa using h4
    have HF : Hid (M.one p a b = false) := Lib.hid (by unfold M.one; simp [H0.out, H1.out, H2.out, H3.out, h4])
    clear h4
    have hV := HW.out
    go_enter Tryz.func114, Tryz.ntmps114
    go_wp2_with fail
    go_ret
    exact ⟨by rw [HF.out]; rfl, hB⟩
  have q4 : (wrap64 (b.ch - a.ch) == p.c) = true := by rw [show wrap64 (b.ch - a.ch) = IntKind.i64.wrap (b.ch - a.ch) from (IntWalk.i64_left _).symm]; simpa using h4
  have H4 := Lib.hid h4
  clear h4
  have HF : Hid (M.one p a b = true) := Lib.hid (by unfold M.one; simp [H0.out, H1.out, H2.out, H3.out, H4.out])
  have hV := HW.out
  go_enter Tryz.func114, Tryz.ntmps114
  go_wp2_with fail
  go_ret
  exact ⟨by rw [HF.out]; rfl, hB⟩
namespace M
theorem forbd_zero {ps : List P5} {a b : Ch} (h : a.ch = 0 ∨ b.ch = 0) : forbd ps a b = false := by
  unfold forbd; rcases h with h | h <;> simp [h]
theorem forbd_any {ps : List P5} {a b : Ch} (h : a.ch ≠ 0) (h2 : b.ch ≠ 0) : forbd ps a b = ps.any fun p => hit p a b || hit p b a := by
  unfold forbd; rw [decide_eq_false h, decide_eq_false h2]; rfl
theorem any_here {α : Type} {f : α → Bool} {l : List α} {k : Nat} (hk : k < l.length) (h : f l[k] = true) : l.any f = true := List.any_eq_true.2 ⟨_, List.getElem_mem hk, h⟩
theorem any_none' {α : Type} {f : α → Bool} {l : List α} (h : ∀ k (hk : k < l.length), f l[k] = false) : l.any f = false := by
  rw [List.any_eq_false]
  intro x hx
  obtain ⟨k, hk, rfl⟩ := List.getElem_of_mem hx
  rw [h k hk]; decide
end M
set_option maxHeartbeats 16000000 in
theorem forbidden_ok (PA : Option Addr) (pc : Nat) (ps : List P5) (a b : Ch) (w : World) (hL : Sl 5 p5cell w w.heap.size PA ps) (hl : ps.length ≤ 9223372036854775807) : Calls Tryz.prog 144 #[.slice PA ps.length pc, chv a, chv b] w fun e w' => e = .returned (.bool (M.forbd ps a b)) ∧ Below w.heap.size w w' := by
  obtain ⟨V, HW, x1, x2, hB, -⟩ := boxes2 w (chc a) 160 (chc b) 160
  obtain ⟨d0, d1⟩ := x1.c2
  obtain ⟨e0, e1⟩ := x2.c2
  have hV := HW.out
  by_cases ha : a.ch = 0
  · have q0 : (a.ch == 0) = true := by simpa using ha
    have HF := Lib.hid (M.forbd_zero (ps := ps) (b := b) (.inl ha))
    clear ha
    go_enter Tryz.func144, Tryz.ntmps144
    go_wp2_with fail
    go_ret
    exact ⟨by rw [HF.out]; rfl, hB⟩
  have q0 : (a.ch == 0) = false := by simpa using ha
  by_cases hb : b.ch = 0
  · have q1 : (b.ch == 0) = true := by simpa using hb
    have HF := Lib.hid (M.forbd_zero (ps := ps) (a := a) (.inr hb))
    clear ha hb
    go_enter Tryz.func144, Tryz.ntmps144
    go_wp2_with fail
    go_ret
    exact ⟨by rw [HF.out]; rfl, hB⟩
  have q1 : (b.ch == 0) = false := by simpa using hb
  rw [M.forbd_any ha hb]
  clear ha hb
  go_enter Tryz.func144, Tryz.ntmps144
  go_wp2_with fail
  clear hV d0 d1 e0 e1 q0 q1
  go_loopw [8, 19] (fun _ i wr => ∃ k : Nat, k ≤ ps.length ∧ i = .int .i64 k ∧ Below V.heap.size V wr ∧ Hid (∀ j (hj : j < ps.length), j < k → (M.hit ps[j] a b || M.hit ps[j] b a) = false)) (fun _ i _ => ps.length - (intOf i).toNat)
  case atStart => exact ⟨0, Nat.zero_le _, rfl, Below.refl _ _, Lib.hid (fun j _ h => absurd h (by omega))⟩
  case round =>
    obtain ⟨k, hk, rfl, hBr, HN⟩ := hrel
    by_cases hlt : k < ps.length
    · have BW := after_ hB hBr
      obtain ⟨la, hla, hlb, c0, c1, c2, c3, c4⟩ := ((hL.below BW).more BW.size).p5s hlt
      have HY : Hid ((M.hit ps[k] a b || M.hit ps[k] b a) = true → (ps.any fun p => M.hit p a b || M.hit p b a) = true) := Lib.hid (fun h => M.any_here (f := fun p => M.hit p a b || M.hit p b a) hlt h)
      have HS : Hid ((M.hit ps[k] a b || M.hit ps[k] b a) = false → ∀ j (hj : j < ps.length), j < k + 1 → (M.hit ps[j] a b || M.hit ps[j] b a) = false) := Lib.hid (fun h j hj h3 => by
        by_cases e : j = k
        · subst e; exact h
        · exact HN.out j hj (by omega))
      clear HN
      generalize ps[k] = p at *
      have z0 : (0 : Int) ≤ (k : Int) := by omega
      have z1 : (k : Int) < (ps.length : Int) := by omega
      have q0 : decide ((k : Int) < (ps.length : Int)) = true := decide_eq_true z1
      subst hla
      obtain ⟨X, HX, u0, hbX, -⟩ := boxes1 wr (p5c p) 190
      have y1 := (x1.below hBr).below hbX
      have y2 := (x2.below hBr).below hbX
      obtain ⟨u1, u2, u3, u4, u5⟩ := u0.c5'
      obtain ⟨d0, d1⟩ := y1.c2
      obtain ⟨e0, e1⟩ := y2.c2
      have hX := HX.out
      go_wp2_with fail
      clear hX c0 c1 c2 c3 c4 d0 d1 e0 e1 u1 u2 u3 u4 u5 q0
      refine (hits_ok p a b X).mono ?_
      rintro e w1 ⟨rfl, hb1⟩
      have B1 := after_ (after_ hBr hbX) hb1
      cases h1 : M.hit p a b with
      | true =>
        have HF := Lib.hid (HY.out (by rw [h1]; rfl))
        clear h1 HY HS
        go_wp2_with fail
        go_ret
        exact ⟨by rw [HF.out]; rfl, after_ hB B1⟩
      | false =>
        obtain ⟨u1, u2, u3, u4, u5⟩ := (u0.below hb1).c5'
        obtain ⟨d0, d1⟩ := (y1.below hb1).c2
        obtain ⟨e0, e1⟩ := (y2.below hb1).c2
        go_wp2_with fail
        clear d0 d1 e0 e1 u1 u2 u3 u4 u5
        refine (hits_ok p b a w1).mono ?_
        rintro e w2 ⟨rfl, hb2⟩
        have B2 := after_ B1 hb2
        cases h2 : M.hit p b a with
        | true =>
          have HF := Lib.hid (HY.out (by rw [h2, Bool.or_true]))
          clear h1 h2 HY HS
          go_wp2_with fail
          go_ret
          exact ⟨by rw [HF.out]; rfl, after_ hB B2⟩
        | false =>
          have HN := Lib.hid (HS.out (by rw [h1, h2]; rfl))
          clear h1 h2 HY HS
          go_wp2_with fail
          go_roundw
          case rel => exact ⟨k + 1, hlt, by go_num, B2, HN⟩
          case measure => simp [intOf]; omega
    · have q0 : decide ((k : Int) < (ps.length : Int)) = false := decide_eq_false (by omega)
      have HF := Lib.hid (M.any_none' (f := fun p => M.hit p a b || M.hit p b a) (fun j hj => HN.out j hj (by omega)))
      go_wp2_with fail
      go_ret
      exact ⟨by rw [HF.out]; rfl, after_ hB hBr⟩
set_option maxHeartbeats 8000000 in
theorem waits_ok (PA : Option Addr) (pc : Nat) (ps : List P5) (x y : Mv) (w : World) (hL : Sl 5 p5cell w w.heap.size PA ps) (hl : ps.length ≤ 9223372036854775807) : Calls Tryz.prog 118 #[.slice PA ps.length pc, mvv x, mvv y] w fun e w' => e = .returned (.bool (M.waits ps x y)) ∧ Below w.heap.size w w' := by
  obtain ⟨V, HW, x1, x2, hB, -⟩ := boxes2 w (mvc x) 66 (mvc y) 66
  obtain ⟨d0, d1, d2, d3, d4, d5⟩ := x1.c6'
  obtain ⟨e0, e1, e2, e3, e4, e5⟩ := x2.c6'
  have hV := HW.out
  by_cases ha : x.st = y.st
  · have q0 : (x.st == y.st) = true := by simpa using ha
    have HF : Hid (M.waits ps x y = false) := Lib.hid (by unfold M.waits; simp [ha])
    clear ha
    go_enter Tryz.func118, Tryz.ntmps118
    go_wp2_with fail
    go_ret
    exact ⟨by rw [HF.out]; rfl, hB⟩
  have q0 : (x.st == y.st) = false := by simpa using ha
  have kF := forbidden_ok PA pc ps ⟨x.st, x.new⟩ ⟨y.st, y.old⟩ V ((hL.below hB).more hB.size) hl
  obtain ⟨r, hr⟩ : ∃ r, M.forbd ps ⟨x.st, x.new⟩ ⟨y.st, y.old⟩ = r := ⟨_, rfl⟩
  have HF : Hid (M.waits ps x y = r) := Lib.hid (by unfold M.waits; rw [decide_eq_false ha, hr]; rfl)
  rw [hr] at kF
  clear hr ha
  go_enter Tryz.func118, Tryz.ntmps118
  go_wp2_with fail
  refine kF.mono ?_
  rintro e w1 ⟨rfl, hb1⟩
  go_wp2_with fail
  go_ret
  exact ⟨by rw [HF.out]; rfl, after_ hB hb1⟩
end Go.Proofs.YtpkepgcmifdpfaaGreatDoor
end
