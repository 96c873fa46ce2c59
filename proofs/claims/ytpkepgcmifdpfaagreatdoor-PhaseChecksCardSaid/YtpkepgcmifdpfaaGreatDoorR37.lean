/- A bundle of texts: Or4, GyP, Gy1, Gy2, RgM, Be1, Be2. -/
import Derived.Test.YtpkepgcmifdpfaaGreatDoorR35
import Derived.Test.YtpkepgcmifdpfaaGreatDoorR36
import Derived.Test.YtpkepgcmifdpfaaGreatDoorR25
import Derived.Test.YtpkepgcmifdpfaaGreatDoorR31
section
namespace Go.Proofs.YtpkepgcmifdpfaaGreatDoor
open Go Go.RowKit Go.Maps
set_option maxRecDepth 100000
theorem M.frst_take {ins row : List Int} {k : Nat} (hk : k < row.length) : M.frst ins (row.take (k + 1)) = max (M.frst ins (row.take k)) (ins.getD row[k].toNat 0) := by
  unfold M.frst
  rw [List.take_succ_eq_append_getElem hk, List.foldl_append]
  rfl
theorem M.frst_bnd {ins : List Int} {B : Int} (hB : 0 ≤ B) (hi : ∀ x ∈ ins, 0 ≤ x ∧ x ≤ B) (row : List Int) : 0 ≤ M.frst ins row ∧ M.frst ins row ≤ B := by
  induction row using snocRec with
  | nil => exact ⟨Int.le_refl _, hB⟩
  | snoc row g ih =>
    have e : M.frst ins (row ++ [g]) = max (M.frst ins row) (ins.getD g.toNat 0) := by unfold M.frst; rw [List.foldl_append]; rfl
    have hg : 0 ≤ ins.getD g.toNat 0 ∧ ins.getD g.toNat 0 ≤ B := by
      rw [List.getD_eq_getElem?_getD]
      cases h : ins[g.toNat]? with
      | none => exact ⟨Int.le_refl _, hB⟩
      | some x => exact hi x (List.mem_of_getElem? h)
    rw [e]
    omega
set_option maxHeartbeats 16000000 in
theorem first_ok (gv : Value) (WA : Option Addr) (wc : Nat) (wl : List SLc) (i : Nat) (IA : Option Addr) (ic : Nat) (ins : List Int) (w : World) (hW : LL w WA wl) (hI : Sl 1 icell w w.heap.size IA ins) (hi : i < wl.length) (hrow : wl[i].xs.length ≤ 1000000) (hg : ∀ g ∈ wl[i].xs, 0 ≤ g ∧ g < (ins.length : Int)) (hin : ∀ x ∈ ins, 0 ≤ x ∧ x ≤ 1000000) :
    Calls Tryz.prog 75 #[.agg #[gv, .slice WA wl.length wc], .int .i64 (i : Nat), .slice IA ins.length ic] w fun e w' => e = .returned (.int .i64 (M.frst ins wl[i].xs)) ∧ Below w.heap.size w w' := by
  obtain ⟨X, HX, x0, hB, -⟩ := boxes1 w #[gv, .slice WA wl.length wc] 90
  have hX := HX.out
  have hLX := hW.next hB
  obtain ⟨la, hla, hlb, a0⟩ := hLX.outer.sl1 hi
  have c1 := x0.cell 1 rfl
  have hr := hLX.inner _ (List.getElem_mem hi)
  have hIX := (hI.below hB).more hB.size
  have x0i : (0 : Int) ≤ (i : Int) := by omega
  have y0i : (i : Int) < (wl.length : Int) := by omega
  have HG := Lib.hid hg
  have HIN := Lib.hid hin
  clear hW hI hg hin hLX
  obtain ⟨rA, rc, row, hsl⟩ : ∃ A c xs, wl[i]'hi = ⟨A, c, xs⟩ := ⟨_, _, _, rfl⟩
  rw [hsl] at a0 hr HG hrow
  rw [hsl]
  dsimp only at a0 hr HG hrow ⊢
  clear hsl
  subst hla
  go_enter Tryz.func75, Tryz.ntmps75
  go_wp2_with fail
  clear hX a0 c1
  go_loopw [7, 9, 16] (fun n _ j wr => ∃ k : Nat, k ≤ row.length ∧ j = .int .i64 k ∧ n = .int .i64 (M.frst ins (row.take k)) ∧ wr = X) (fun _ _ j _ => row.length - (intOf j).toNat)
  case atStart => exact ⟨0, Nat.zero_le _, rfl, rfl, rfl⟩
  case round =>
    obtain ⟨k, hk, rfl, rfl, hww⟩ := hrel
    obtain rfl : X = wr := hww.symm
    clear hww
    by_cases hlt : k < row.length
    · obtain ⟨lb, hlb2, hlb3, b0⟩ := hr.int1 hlt
      have hgk := HG.out _ (List.getElem_mem hlt)
      obtain ⟨g, hgn⟩ : ∃ g : Nat, row[k] = (g : Int) := ⟨row[k].toNat, by omega⟩
      have hgl : g < ins.length := by omega
      obtain ⟨lc, hlc, hlc2, d0⟩ := hIX.int1 hgl
      have xk0 : (0 : Int) ≤ (k : Int) := by omega
      have yk0 : (k : Int) < (row.length : Int) := by omega
      have qk0 : decide ((k : Int) < (row.length : Int)) = true := decide_eq_true yk0
      have xg0 : (0 : Int) ≤ (g : Int) := by omega
      have yg0 : (g : Int) < (ins.length : Int) := by omega
      have hfb := M.frst_bnd (B := 1000000) (by omega) HIN.out (row.take k)
      have hvb := HIN.out _ (List.getElem_mem hgl)
      have HF : Hid (M.frst ins (row.take (k + 1)) = max (M.frst ins (row.take k)) ins[g]) := Lib.hid (by
        rw [M.frst_take hlt, hgn, Int.toNat_natCast, List.getD_eq_getElem?_getD, List.getElem?_eq_getElem hgl, Option.getD_some])
      rw [hgn] at b0
      clear hgk hgn
      generalize M.frst ins (row.take k) = f0 at *
      generalize ins[g] = v at *
      subst hlb2
      subst hlc
      go_wp2_with fail
      go_roundw
      case rel => exact ⟨k + 1, hlt, by go_num, by rw [HF.out], trivial⟩
      case measure => simp [intOf]; omega
    · obtain rfl : k = row.length := by omega
      have q0 : decide ((row.length : Int) < (row.length : Int)) = false := decide_eq_false (by omega)
      rw [List.take_length]
      go_wp2_with fail
      go_ret
      exact ⟨rfl, hB⟩
end Go.Proofs.YtpkepgcmifdpfaaGreatDoor
end

section
namespace Go.Proofs.YtpkepgcmifdpfaaGreatDoor
open Go Go.RowKit Go.Maps
set_option maxRecDepth 100000
theorem flat_sls (l : List SLc) : flat 1 slcell l = l.map fun s => slcell s 0 := by
  induction l with
  | nil => rfl
  | cons x l ih =>
    have e : flat 1 slcell (x :: l) = slcell x 0 :: flat 1 slcell l := by simp [flat]
    rw [e, ih]
    rfl
structure PL (W : World) (base : Nat) (v : Value) (ls : List SLc) : Prop where
  outer : W.ownsRow base 29 1 v ls.length (flat 1 slcell ls)
  inner : ∀ k (hk : k < ls.length), W.ownsRow base 3 1 (.slice ls[k].A ls[k].xs.length ls[k].c) ls[k].xs.length (flat 1 icell ls[k].xs)
  apart : ∀ i k (hi : i < ls.length) (hk : k < ls.length), i ≠ k → ls[i].bk = none ∨ ls[i].bk ≠ ls[k].bk
section
variable {W W' : World} {base : Nat} {v : Value} {ls : List SLc}
theorem PL.none_ (W : World) (base : Nat) : PL W base (.slice none 0 0) [] := ⟨own_nil _ _ _ _ _, fun k hk => absurd hk (by simp), fun i k hi => absurd hi (by simp)⟩
theorem PL.below (h : PL W base v ls) (hb : Below W.heap.size W W') : PL W' base v ls := ⟨own_below h.outer hb, fun k hk => own_below (h.inner k hk) hb, h.apart⟩
theorem PL.far {b : Nat} (h : PL W base v ls) (hg : W.grownBy W' (some b)) (hb : b < base) : PL W' base v ls :=
  ⟨h.outer.kept hg (.inr (fun e => by have := (h.outer.lt _ e).1; omega)), fun k hk => (h.inner k hk).kept hg (.inr (fun e => by have := ((h.inner k hk).lt _ e).1; omega)), h.apart⟩
theorem PL.lo (h : PL W base v ls) : LO W base v ls := ⟨h.outer, fun s hs => by obtain ⟨k, hk, rfl⟩ := List.getElem_of_mem hs; exact h.inner k hk⟩
theorem PL.lt (h : PL W base v ls) {k : Nat} (hk : k < ls.length) {b : Nat} (e : ls[k].bk = some b) : b < W.heap.size := ((h.inner k hk).lt b e).2
theorem PL.put {g n cap : Nat} (h : PL W base (.slice (some ⟨g, 0, none⟩) n cap) ls) {k : Nat} (hk : k < ls.length) (hb : Below W.heap.size W W') (hbs : base ≤ W.heap.size) {s : SLc} (hin : W'.ownsRow W.heap.size 3 1 (.slice s.A s.xs.length s.c) s.xs.length (flat 1 icell s.xs)) :
    PL (W'.setCell ⟨g, k, none⟩ (.slice s.A s.xs.length s.c)) base (.slice (some ⟨g, 0, none⟩) n cap) (ls.set k s) := by
  have h2 := h.below hb
  have hge : ∀ b, s.bk = some b → W.heap.size ≤ b := fun b e => (hin.lt b e).1
  have hln : ls.length = n := by
    rcases h.outer.2 with ⟨e, _⟩ | ⟨g2, c2, cur, e, _⟩
    · cases e
    · injection e with e1 e2 e3
      exact e2.symm
  subst hln
  have hrow : ∀ {ba : Nat} {v : Value} {n : Nat} {xs : List Value}, W'.ownsRow ba 3 1 v n xs → (W'.setCell ⟨g, k, none⟩ (.slice s.A s.xs.length s.c)).ownsRow ba 3 1 v n xs := fun ho => ho.kept (grown_set W' g k _) (own_ne ho h2.outer (by decide))
  refine ⟨?_, fun i hi => ?_, fun i j hi hj hij => ?_⟩
  · have h3 := own_set h2.outer hk (j := 0) (y := s) (u := .slice s.A s.xs.length s.c) (by decide) rfl (fun j' h3 h4 => absurd h3 (by omega))
    rw [Nat.mul_one, Nat.add_zero] at h3
    rw [List.length_set]
    exact h3
  · rw [List.length_set] at hi
    by_cases e : k = i
    · subst e
      rw [List.getElem_set_self]
      exact own_base (hrow hin) hbs
    · rw [List.getElem_set_ne e]
      exact hrow (h2.inner i hi)
  · rw [List.length_set] at hi hj
    by_cases ei : k = i
    · subst ei
      rw [List.getElem_set_self, List.getElem_set_ne hij]
      cases hbk : s.bk with
      | none => exact .inl rfl
      | some b => exact .inr (fun e => by have h3 := h.lt hj e.symm; have h4 := hge b hbk; omega)
    · by_cases ej : k = j
      · subst ej
        rw [List.getElem_set_self, List.getElem_set_ne ei]
        cases hbk : ls[i].bk with
        | none => exact .inl rfl
        | some b => exact .inr (fun e => by have h3 := h.lt hi hbk; have h4 := hge b e.symm; omega)
      · rw [List.getElem_set_ne ei, List.getElem_set_ne ej]
        exact h.apart i j hi hj hij
theorem PL.push {v' : Value} {Y : World} (h : PL W base v ls) (hb : Below W.heap.size W Y) (hbs : base ≤ W.heap.size) {s : SLc} (hin : Y.ownsRow W.heap.size 3 1 (.slice s.A s.xs.length s.c) s.xs.length (flat 1 icell s.xs)) (ho : W'.ownsRow base 29 1 v' (ls.length + 1) (flat 1 slcell (ls ++ [s]))) (hg : Y.grownBy W' v.ownBlock) : PL W' base v' (ls ++ [s]) := by
  have h2 := h.below hb
  have hge : ∀ b, s.bk = some b → W.heap.size ≤ b := fun b e => (hin.lt b e).1
  have hrow : ∀ {ba : Nat} {u : Value} {n : Nat} {xs : List Value}, Y.ownsRow ba 3 1 u n xs → W'.ownsRow ba 3 1 u n xs := fun hr => hr.kept hg (own_ne hr h2.outer (by decide))
  refine ⟨by rw [List.length_append]; exact ho, fun i hi => ?_, fun i j hi hj hij => ?_⟩
  · rw [List.length_append] at hi
    by_cases e : i < ls.length
    · rw [List.getElem_append_left e]; exact hrow (h2.inner i e)
    · have hi2 : i = ls.length := by simp at hi; omega
      subst hi2
      rw [List.getElem_append_right (Nat.le_refl _)]
      simp only [Nat.sub_self, List.getElem_cons_zero]
      exact own_base (hrow hin) hbs
  · rw [List.length_append] at hi hj
    simp only [List.length_cons, List.length_nil] at hi hj
    by_cases ei : i < ls.length
    · rw [List.getElem_append_left ei]
      by_cases ej : j < ls.length
      · rw [List.getElem_append_left ej]; exact h.apart i j ei ej hij
      · rw [List.getElem_append_right (by omega)]
        have e0 : j - ls.length = 0 := by omega
        simp only [e0, List.getElem_cons_zero]
        cases hbk : ls[i].bk with
        | none => exact .inl rfl
        | some b => exact .inr (fun e => by have h3 := h.lt ei hbk; have h4 := hge b e.symm; omega)
    · rw [List.getElem_append_right (by omega)]
      have e0 : i - ls.length = 0 := by omega
      simp only [e0, List.getElem_cons_zero]
      have ej : j < ls.length := by omega
      rw [List.getElem_append_left ej]
      cases hbk : s.bk with
      | none => exact .inl rfl
      | some b => exact .inr (fun e => by have h3 := h.lt ej e.symm; have h4 := hge b hbk; omega)
theorem PL.turn (h : PL W base v ls) {k : Nat} (hk : k < ls.length) {xs : List Int} (hl : xs.length = ls[k].xs.length) (hin : W'.ownsRow base 3 1 (.slice ls[k].A ls[k].xs.length ls[k].c) ls[k].xs.length (flat 1 icell xs)) (hg : W.grownBy W' ls[k].bk) : PL W' base v (ls.set k ⟨ls[k].A, ls[k].c, xs⟩) := by
  refine ⟨?_, fun i hi => ?_, fun i j hi hj hij => ?_⟩
  · have e : flat 1 slcell (ls.set k ⟨ls[k].A, ls[k].c, xs⟩) = flat 1 slcell ls := by
      rw [flat_sls, flat_sls, List.map_set]
      have e2 : slcell ⟨ls[k].A, ls[k].c, xs⟩ 0 = (ls.map fun s => slcell s 0)[k]'(by rw [List.length_map]; exact hk) := by
        rw [List.getElem_map]
        unfold slcell
        rw [hl]
      rw [e2, List.set_getElem_self]
    rw [e, List.length_set]
    exact h.outer.kept hg (own_ne h.outer (h.inner k hk) (by decide))
  · rw [List.length_set] at hi
    by_cases e : k = i
    · subst e
      rw [List.getElem_set_self]
      dsimp only
      rw [hl]
      exact hin
    · rw [List.getElem_set_ne e]
      exact (h.inner i hi).kept hg (h.apart i k hi hk (fun e2 => e e2.symm))
  · rw [List.length_set] at hi hj
    have hbk : SLc.bk ⟨ls[k].A, ls[k].c, xs⟩ = ls[k].bk := by
      unfold SLc.bk
      cases ls[k].A <;> rfl
    have hx : ∀ i (hi : i < ls.length), ((ls.set k ⟨ls[k].A, ls[k].c, xs⟩)[i]'(by rw [List.length_set]; exact hi)).bk = ls[i].bk := fun i hi => by
      by_cases e : k = i
      · subst e; rw [List.getElem_set_self]; exact hbk
      · rw [List.getElem_set_ne e]
    rw [hx i hi, hx j hj]
    exact h.apart i j hi hj hij
end
end Go.Proofs.YtpkepgcmifdpfaaGreatDoor
end

section
namespace Go.Proofs.YtpkepgcmifdpfaaGreatDoor
open Go Go.RowKit Go.Maps
set_option maxRecDepth 100000
structure OrD (w : World) (bg : Nat) (G W : List (List Int)) (GA : Option Addr) (gc : Nat) (gs : List SLc) (bW : Nat) (wl : List SLc) : Prop where
  lo : LO w bg (.slice GA gs.length gc) gs
  ll : LL w (some ⟨bW, 0, none⟩) wl
  gx : gs.map (·.xs) = G
  wx : wl.map (·.xs) = W
  small : ∀ g ∈ G, g.length ≤ 512 ∧ ∀ x ∈ g, 0 ≤ x ∧ x ≤ 511
  few : G.length ≤ 512
  wln : W.length = G.length
  wok : ∀ r ∈ W, r.length ≤ 1000000 ∧ ∀ x ∈ r, 0 ≤ x ∧ x < (G.length : Int)
theorem OrD.next {w w' : World} {bg : Nat} {G W : List (List Int)} {GA : Option Addr} {gc : Nat} {gs : List SLc} {bW : Nat} {wl : List SLc} (h : OrD w bg G W GA gc gs bW wl) (hb : Below w.heap.size w w') : OrD w' bg G W GA gc gs bW wl :=
  ⟨h.lo.below hb, h.ll.next hb, h.gx, h.wx, h.small, h.few, h.wln, h.wok⟩
structure GyS (w0 W : World) (base bI : Nat) (gv wv : Value) (v : Value) (ls : List SLc) (n : Nat) (ins : List Int) : Prop where
  bel : Below w0.heap.size w0 W
  big : base ≤ W.heap.size
  x3 : Box W w0.heap.size #[gv, wv] 90
  row : W.ownsRow w0.heap.size 3 1 (.slice (some ⟨bI, 0, none⟩) n n) n (flat 1 icell ins)
  sep : w0.heap.size < bI ∧ bI < base
  pl : PL W base v ls
section
variable {w0 W W' : World} {base bI n : Nat} {gv wv v : Value} {ls : List SLc} {ins : List Int}
theorem GyS.next (h : GyS w0 W base bI gv wv v ls n ins) (hb : Below W.heap.size W W') : GyS w0 W' base bI gv wv v ls n ins :=
  ⟨after_ h.bel hb, Nat.le_trans h.big hb.size, h.x3.below hb, own_below h.row hb, h.sep, h.pl.below hb⟩
theorem GyS.insSet (h : GyS w0 W base bI gv wv v ls n ins) {i : Nat} (hi : i < ins.length) (x : Int) : GyS w0 (W.setCell ⟨bI, i, none⟩ (.int .i64 x)) base bI gv wv v ls n (ins.set i x) := by
  have hs := h.sep
  refine ⟨h.bel.setCell (p := ⟨bI, i, none⟩) (by dsimp only; omega) _, by rw [World.size_setCell]; exact h.big, h.x3.set_other (by dsimp only; omega) _, ?_, h.sep, h.pl.far (grown_set W bI i _) hs.2⟩
  have h2 := own_set h.row hi (j := 0) (y := x) (u := .int .i64 x) (by decide) rfl (fun j' h3 h4 => absurd h3 (by omega))
  rw [Nat.mul_one, Nat.add_zero] at h2
  exact h2
theorem GyS.put {g c : Nat} {m : Nat} (h : GyS w0 W base bI gv wv (.slice (some ⟨g, 0, none⟩) m c) ls n ins) {k : Nat} (hk : k < ls.length) (hb : Below W.heap.size W W') {s : SLc} (hin : W'.ownsRow W.heap.size 3 1 (.slice s.A s.xs.length s.c) s.xs.length (flat 1 icell s.xs)) :
    GyS w0 (W'.setCell ⟨g, k, none⟩ (.slice s.A s.xs.length s.c)) base bI gv wv (.slice (some ⟨g, 0, none⟩) m c) (ls.set k s) n ins := by
  have h2 := h.next hb
  have hs := h.sep
  have hg := (h.pl.outer.lt g rfl).1
  exact ⟨h2.bel.setCell (p := ⟨g, k, none⟩) (by dsimp only; omega) _, by rw [World.size_setCell]; exact h2.big, h2.x3.set_other (by dsimp only; omega) _, h2.row.kept (grown_set W' g k _) (.inr (fun e => by have := Option.some.inj e; dsimp only at this; omega)), h.sep, h.pl.put hk hb h.big hin⟩
theorem GyS.push {v' : Value} {Y : World} (h : GyS w0 W base bI gv wv v ls n ins) (hb : Below W.heap.size W Y) {s : SLc} (hin : Y.ownsRow W.heap.size 3 1 (.slice s.A s.xs.length s.c) s.xs.length (flat 1 icell s.xs)) (ho : W'.ownsRow base 29 1 v' (ls.length + 1) (flat 1 slcell (ls ++ [s]))) (hg : Y.grownBy W' v.ownBlock) : GyS w0 W' base bI gv wv v' (ls ++ [s]) n ins := by
  have h2 := h.next hb
  have hs := h.sep
  have hge : ∀ k, v.ownBlock = some k → base ≤ k := fun k e => (h.pl.outer.lt k e).1
  exact ⟨h2.bel.grown hg h2.bel.size (fun k e => by have := hge k e; omega), Nat.le_trans h2.big hg.size, h2.x3.grown hg (fun e => by have := hge _ e.symm; omega), h2.row.kept hg (own_ne h2.row h2.pl.outer (by decide)), h.sep, h.pl.push hb h.big hin ho hg⟩
theorem GyS.turn (h : GyS w0 W base bI gv wv v ls n ins) {k : Nat} (hk : k < ls.length) {xs : List Int} (hl : xs.length = ls[k].xs.length) (hin : W'.ownsRow base 3 1 (.slice ls[k].A ls[k].xs.length ls[k].c) ls[k].xs.length (flat 1 icell xs)) (hg : W.grownBy W' ls[k].bk) : GyS w0 W' base bI gv wv v (ls.set k ⟨ls[k].A, ls[k].c, xs⟩) n ins := by
  have hs := h.sep
  have hge : ∀ q, ls[k].bk = some q → base ≤ q := fun q e => ((h.pl.inner k hk).lt q e).1
  exact ⟨h.bel.grown hg h.bel.size (fun q e => by have := hge q e; omega), Nat.le_trans h.big hg.size, h.x3.grown hg (fun e => by have := hge _ e.symm; omega), h.row.kept hg (.inr (fun e => by have h1 := hge bI e.symm; omega)), h.sep, h.pl.turn hk hl hin hg⟩
theorem GyS.insLen (h : GyS w0 W base bI gv wv v ls n ins) : ins.length = n := by
  have := h.row.1
  rw [flat_length] at this
  omega
end
set_option maxHeartbeats 64000000 in
theorem greedy_ok (b bg : Nat) (a : TrA) (t : Tr) (G Wt : List (List Int)) (GA : Option Addr) (gc : Nat) (gs : List SLc) (bW : Nat) (wl : List SLc) (w : World) (h : MD w b a t) (ho : OrD w bg G Wt GA gc gs bW wl) :
    Calls Tryz.prog 49 #[.pointer (some ⟨b, 0, none⟩), .agg #[.slice GA gs.length gc, .slice (some ⟨bW, 0, none⟩) wl.length wl.length]] w fun e w' => (∃ A c ls, e = .returned (.slice A ls.length c) ∧ LO w' w.heap.size (.slice A ls.length c) ls ∧ ls.map (·.xs) = M.gy t G Wt) ∧ Below w.heap.size w w' := by
  obtain ⟨ii, hii, hzi0, hzi1, hzi2⟩ := info_parts intInfoP
  have Hii := Lib.hid hii; have Hzi0 := Lib.hid hzi0; have Hzi1 := Lib.hid hzi1; have Hzi2 := Lib.hid hzi2
  clear hii hzi0 hzi1 hzi2
  obtain ⟨il, hil, hzl0, hzl1, hzl2⟩ := info_parts slInfo
  have Hil := Lib.hid hil; have Hzl0 := Lib.hid hzl0; have Hzl1 := Lib.hid hzl1; have Hzl2 := Lib.hid hzl2
  clear hil hzl0 hzl1 hzl2
  obtain ⟨X, HX, x3, hB, -⟩ := boxes1 w #[.slice GA gs.length gc, .slice (some ⟨bW, 0, none⟩) wl.length wl.length] 90
  have hX := HX.out
  have HMD := Lib.hid h
  have HOD := Lib.hid ho
  obtain ⟨n, hn⟩ : ∃ n, gs.length = n := ⟨_, rfl⟩
  have hwn : wl.length = n := by rw [← hn, ← List.length_map (f := (·.xs)), ho.wx, ho.wln, ← ho.gx, List.length_map]
  have hGn : G.length = n := by rw [← ho.gx, List.length_map, hn]
  have hnb : n ≤ 512 := by have := ho.few; omega
  rw [hn, hwn] at x3 hX ⊢
  have HN := Lib.hid hn
  have HWN := Lib.hid hwn
  have HGN := Lib.hid hGn
  have c0 := x3.cell 0 rfl
  clear h ho hn hwn hGn
  go_enter Tryz.func49, Tryz.ntmps49
  go_wp2_with fail
  go_step3
  go_wp2_with (at_make; refine wpList_make_full _ rfl _ _ 29 rfl w.heap.size 3 ii _ 1 Tryz.underlying29 Hii.out Hzi0.out Hzi1.out .i64 .i64 _ _ n rfl rfl rfl rfl (by rw [Hzi2.out]; omega) (by unfold maxLen; omega) hB.size ?_; intro w4 hown4 hg4)
  go_step3
  have em := made_flat (cell := icell) (size := 1) (x0 := (0 : Int)) (by decide) (Value.int .i64 0).cells (by simp [Value.cells, icell, List.range_succ]) n
  rw [em] at hown4
  clear em
  have hb4 : Below X.heap.size X w4 := (Below.refl _ _).grown hg4 (Nat.le_refl _) (by simp)
  have hs4 := (own_lt hown4).2
  have hgs : GyS w w4 w4.heap.size X.heap.size (.slice GA n gc) (.slice (some ⟨bW, 0, none⟩) n n) (.slice none 0 0) [] n (List.replicate n 0) :=
    ⟨after_ hB hb4, Nat.le_refl _, x3.below hb4, hown4, ⟨x3.lt, hs4⟩, PL.none_ _ _⟩
  generalize w4.heap.size = base at *
  generalize X.heap.size = bI at *
  have H0 : Hid (([] : List SLc).map (·.xs) = (M.gyN t G Wt 0).1 ∧ List.replicate n 0 = (M.gyN t G Wt 0).2) := Lib.hid ⟨rfl, by rw [← HGN.out]; rfl⟩
  have cx0 := hgs.x3.cell 0 rfl
  clear hX c0 hown4 hg4 hb4 hs4 x3 hB
  go_wp2_with fail
  clear cx0
  refine wp_loop_mrg [5, 7, 8, 9, 10, 20, 21, 22, 23, 24, 25, 26, 27, 28, 29, 30, 31, 32, 33, 34, 35, 36, 37, 38, 39, 40, 41, 42, 43, 44, 45, 46, 47, 48, 49, 50, 51, 52, 53, 54, 55, 56, 57, 58, 59, 60, 61, 62, 63] (fun mm f ds W1 => ds = [] ∧ ∃ (i : Nat) (A : Option Addr) (c : Nat) (ls : List SLc) (ins : List Int), f 20 = .int .i64 i ∧ f 5 = .slice A ls.length c ∧ mm = n - i ∧ i ≤ n ∧ GyS w W1 base bI (.slice GA n gc) (.slice (some ⟨bW, 0, none⟩) n n) (.slice A ls.length c) ls n ins ∧ Hid (ls.map (·.xs) = (M.gyN t G Wt i).1 ∧ ins = (M.gyN t G Wt i).2)) n ⟨rfl, 0, none, 0, [], _, by rfl, by rfl, rfl, Nat.zero_le _, hgs, H0⟩ ?_
  clear hgs H0
  intro c1' T1' hc2 hT2
  rintro mm f ds W1 ⟨rfl, i, A, c, ls, ins, hf20, hf5, rfl, hi, hgs, HST⟩
  replace hc2 := hc2.out
  subst hc2
  replace hT2 := hT2.out
  subst hT2
  generalize hF : mrgF _ 0 _ _ = F
  simp only [mrg_hit, mrg_miss, mrg_end, Nat.reduceBEq, Nat.reduceAdd] at hF
  rw [hf20, hf5] at hF
  subst hF
  by_cases hlt : i < n
  · have ho := HOD.out.next hgs.bel
    have hig : i < gs.length := by rw [HN.out]; exact hlt
    have hiw : i < wl.length := by rw [HWN.out]; exact hlt
    have hiG : i < G.length := by rw [HGN.out]; exact hlt
    have hLL := ho.lo.ll
    obtain ⟨la, hla, hlb, a0⟩ := hLL.outer.sl1 hig
    obtain ⟨gA, gcc, g, hsg⟩ : ∃ A c xs, gs[i]'hig = ⟨A, c, xs⟩ := ⟨_, _, _, rfl⟩
    obtain ⟨rA, rc, row, hsr⟩ : ∃ A c xs, wl[i]'hiw = ⟨A, c, xs⟩ := ⟨_, _, _, rfl⟩
    have hgD : G.getD i [] = g := by
      rw [← ho.gx, List.getD_eq_getElem?_getD, List.getElem?_map, List.getElem?_eq_getElem hig, hsg]
      rfl
    have hrD : Wt.getD i [] = row := by
      rw [← ho.wx, List.getD_eq_getElem?_getD, List.getElem?_map, List.getElem?_eq_getElem hiw, hsr]
      rfl
    have hgm : g ∈ G := by rw [← hgD, List.getD_eq_getElem?_getD, List.getElem?_eq_getElem hiG]; exact List.getElem_mem hiG
    have hrm : row ∈ Wt := by
      have hiW : i < Wt.length := by rw [ho.wln]; exact hiG
      rw [← hrD, List.getD_eq_getElem?_getD, List.getElem?_eq_getElem hiW]; exact List.getElem_mem hiW
    have HI := Lib.hid (M.GyI.all (t := t) (W := Wt) ho.small i (by omega))
    have hins : ins.length = n := hgs.insLen
    have kF := first_ok (.slice GA n gc) (some ⟨bW, 0, none⟩) n wl i (some ⟨bI, 0, none⟩) n ins W1 ho.ll (Sl.of_own (by decide) hgs.row) hiw (by rw [hsr]; exact (ho.wok row hrm).1) (fun x hx => by rw [hsr] at hx; have := (ho.wok row hrm).2 x hx; rw [HGN.out] at this; rw [hins]; exact this) (fun x hx => by have := HI.out.bnd x (by rw [← HST.out.2]; exact hx); omega)
    rw [hsr, HWN.out, hins] at kF
    dsimp only at kF
    have hfb := M.frst_bnd (ins := ins) (B := 1000000) (by omega) (fun x hx => by have := HI.out.bnd x (by rw [← HST.out.2]; exact hx); omega) row
    obtain ⟨k0, hk0⟩ : ∃ k0 : Nat, M.frst ins row = (k0 : Int) := ⟨(M.frst ins row).toNat, by omega⟩
    rw [hk0] at kF
    have hgn : M.gyN t G Wt (i + 1) = M.gyStep t Wt (ls.map (·.xs), ins) i g := by
      conv => lhs; unfold M.gyN
      rw [hgD, HST.out.1, HST.out.2]
    have HY : Hid (∀ k, M.fit t (ls.map (·.xs)) g k0 = some k → M.gyN t G Wt (i + 1) = ((ls.map (·.xs)).set k ((ls.map (·.xs)).getD k [] ++ g), ins.set i (k : Nat))) := Lib.hid (fun k hk => by
      rw [hgn]
      unfold M.gyStep
      dsimp only
      rw [hrD, hk0, Int.toNat_natCast, hk])
    have HZ : Hid (M.fit t (ls.map (·.xs)) g k0 = none → M.gyN t G Wt (i + 1) = (ls.map (·.xs) ++ [g], ins.set i ((ls.map (·.xs)).length : Nat))) := Lib.hid (fun hk => by
      rw [hgn]
      unfold M.gyStep
      dsimp only
      rw [hrD, hk0, Int.toNat_natCast, hk])
    have hk0b : k0 ≤ 1000000 := by omega
    rw [hsg] at a0
    dsimp only at a0
    have HGm := Lib.hid (ho.small g hgm)
    have HROW : Hid (∀ s ∈ ls.map (·.xs), s.length ≤ 512 * i ∧ ∀ x ∈ s, 0 ≤ x ∧ x ≤ 511) := Lib.hid (by rw [HST.out.1]; exact HI.out.row)
    have HGO : Hid (∀ W, Below w.heap.size w W → W.ownsRow bg 3 1 (.slice gA g.length gcc) g.length (flat 1 icell g) ∧ Sl 1 icell W W.heap.size gA g) := Lib.hid (fun W hW => by
      have h1 := (HOD.out.next hW).lo.inner _ (List.getElem_mem hig)
      rw [hsg] at h1
      exact ⟨h1, Sl.of_own (by decide) h1⟩)
    have x0 : (0 : Int) ≤ (i : Int) := by omega
    have y0 : (i : Int) < (n : Int) := by omega
    have q0 : decide ((i : Int) < (n : Int)) = true := decide_eq_true y0
    have cx0 := hgs.x3.cell 0 rfl
    have cx1 := hgs.x3.cell 1 rfl
    have HLN : Hid (ls.length ≤ i) := Lib.hid (by have := HI.out.len; rw [← HST.out.1, List.length_map] at this; exact this)
    clear ho hLL hsg hsr hgD hrD hgm hrm hins hfb hk0 HST HI hgn
    subst hla
    go_wp2_with fail
    refine kF.mono ?_
    rintro e w3 ⟨rfl, hb3⟩
    clear kF a0 cx0 cx1
    have hgs3 := hgs.next hb3
    have HF0 : Hid (M.fit t (ls.map (·.xs)) g k0 = M.fit t (ls.map (·.xs)) g k0) := Lib.hid rfl
    clear hgs
    go_wp2_with fail
    refine wp_loop_mrg [9, 10, 29, 30, 31, 32, 33, 34, 35, 36, 37, 38, 39, 40, 41, 42, 43, 44, 45, 46, 47, 48, 49, 50, 51, 52] (fun mm f ds W2 => ds = [] ∧ ∃ (k : Nat), f 9 = .int .i64 k ∧ mm = ls.length - k ∧ k ≤ 1000000 ∧ GyS w W2 base bI (.slice (some la) n gc) (.slice (some ⟨bW, 0, none⟩) n n) (.slice A ls.length c) ls n ins ∧ Hid (M.fit t (ls.map (·.xs)) g k0 = M.fit t (ls.map (·.xs)) g k)) (ls.length - k0) ⟨rfl, k0, rfl, rfl, hk0b, hgs3, Lib.hid rfl⟩ ?_
    clear hgs3 HF0
    intro c2' T2' hc2 hT2
    rintro mm f ds W2 ⟨rfl, k, hf9, rfl, hkb, hgs2, HFT⟩
    replace hc2 := hc2.out
    subst hc2
    replace hT2 := hT2.out
    subst hT2
    generalize hF : mrgF _ 0 _ _ = F
    simp only [mrg_hit, mrg_miss, mrg_end, Nat.reduceBEq, Nat.reduceAdd] at hF
    rw [hf9] at hF
    subst hF
    have HIL : Hid (i < ins.length) := Lib.hid (by rw [hgs2.insLen]; exact hlt)
    by_cases hlk : k < ls.length
    · have hpl := hgs2.pl
      have hkm : (ls.map (·.xs)).getD k [] = ls[k].xs := by
        rw [List.getD_eq_getElem?_getD, List.getElem?_map, List.getElem?_eq_getElem hlk]
        rfl
      obtain ⟨pA, pc, px, hsp⟩ : ∃ A c xs, ls[k]'hlk = ⟨A, c, xs⟩ := ⟨_, _, _, rfl⟩
      rw [hsp] at hkm
      dsimp only at hkm
      have hpm : px ∈ ls.map (·.xs) := List.mem_map.2 ⟨ls[k], List.getElem_mem hlk, by rw [hsp]⟩
      have hpb := HROW.out px hpm
      obtain ⟨g0, rfl⟩ : ∃ g0, A = some ⟨g0, 0, none⟩ := by
        rcases hpl.outer.2 with ⟨e, h0⟩ | ⟨g0, cap, cur, e, -⟩
        · omega
        · injection e with e1 e2 e3
          exact ⟨g0, e1⟩
      have d0 := (own_at hpl.outer hlk (j := 0) (by decide)).1
      rw [Nat.mul_one, Nat.add_zero, hsp] at d0
      replace d0 : W2.cell? ⟨g0, k, none⟩ = some (.slice pA px.length pc) := d0
      have hprow := hpl.inner k hlk
      rw [hsp] at hprow
      dsimp only at hprow
      obtain ⟨hgo1, hgo2⟩ := HGO.out W2 hgs2.bel
      obtain ⟨X2, HX2, x2, hbX2, -⟩ := boxes1 W2 #[.slice pA px.length pc, .slice gA g.length gcc] 29
      have hX2 := HX2.out
      have hll : LL X2 (some ⟨W2.heap.size, 0, none⟩) [⟨pA, pc, px⟩, ⟨gA, gcc, g⟩] := by
        refine ⟨Sl.of_box x2 rfl, fun s hs => ?_⟩
        rcases List.mem_cons.1 hs with rfl | hs
        · exact ((Sl.of_own (by decide) hprow).below hbX2).more hbX2.size
        · obtain rfl := List.mem_singleton.1 hs
          exact (hgo2.below hbX2).more hbX2.size
      have hcat : M.cat [⟨pA, pc, px⟩, ⟨gA, gcc, g⟩] = px ++ g := by simp [M.cat]
      have hcl : (M.cat [⟨pA, pc, px⟩, ⟨gA, gcc, g⟩]).length ≤ 1000000 := by rw [hcat, List.length_append]; have := HGm.out.1; omega
      have kC := concatP_ok (some ⟨W2.heap.size, 0, none⟩) 2 [⟨pA, pc, px⟩, ⟨gA, gcc, g⟩] X2 hll (by simp) hcl
      rw [hcat] at kC
      have HKM := Lib.hid hkm
      have HPB := Lib.hid hpb
      have xk0 : (0 : Int) ≤ (k : Int) := by omega
      have yk0 : (k : Int) < (ls.length : Int) := by omega
      have qk0 : decide ((k : Int) < (ls.length : Int)) = true := decide_eq_true yk0
      have hgsX := hgs2.next hbX2
      have HLK := Lib.hid hlk
      clear hkm hpm hpb hsp hprow hgo1 hgo2 hll hcat hcl hpl x2 hbX2 hgs2
      go_wp2_with fail
      refine kC.mono ?_
      rintro e w5 ⟨⟨v5, rfl, hv5⟩, hb5⟩
      clear kC hX2 d0
      obtain ⟨A5, c5, hv, hS5⟩ := own_slice (by decide) hv5
      subst hv
      have hgs5 := hgsX.next hb5
      have hpl2 : (px ++ g).length ≤ 1000000 := by rw [List.length_append]; have := HGm.out.1; have := HPB.out.1; omega
      have kS := small_ok b a t A5 c5 (px ++ g) w5 (HMD.out.next hgs5.bel) hS5 hpl2 (fun x hx => by
        have h9 : 0 ≤ x ∧ x ≤ 511 := by
          rcases List.mem_append.1 hx with h | h
          · exact HPB.out.2 x h
          · exact HGm.out.2 x h
        unfold M.W64; omega)
      have HYES : Hid (M.small t (px ++ g) = true → M.gyN t G Wt (i + 1) = ((ls.map (·.xs)).set k (px ++ g), ins.set i (k : Nat))) := Lib.hid (fun e => by
        have h9 := HY.out k (by rw [HFT.out]; exact M.fit_yes (by rw [List.length_map]; exact HLK.out) (by rw [HKM.out]; exact e))
        rw [HKM.out] at h9
        exact h9)
      have HNO : Hid (M.small t (px ++ g) = false → M.fit t (ls.map (·.xs)) g k0 = M.fit t (ls.map (·.xs)) g (k + 1)) := Lib.hid (fun e => by
        rw [HFT.out]
        exact M.fit_no (by rw [List.length_map]; exact HLK.out) (by rw [HKM.out]; exact e))
      obtain ⟨sl, hsl⟩ : ∃ n, (px ++ g).length = n := ⟨_, rfl⟩
      rw [hsl] at kS hv5 ⊢
      have HSL := Lib.hid hsl
      generalize hsm : M.small t (px ++ g) = sm at *
      clear hsl hpl2 hS5 hsm
      go_wp2_with fail
      refine kS.mono ?_
      rintro e w6 ⟨rfl, hb6⟩
      clear kS
      have hb56 := after_ hb5 hb6
      have hv6 := own_below hv5 hb6
      have hgs6 := hgs5.next hb6
      clear hgs5 hv5
      cases sm with
      | false =>
        have HN2 := Lib.hid (HNO.out rfl)
        clear HNO HYES
        go_wp2_with fail
        exact ⟨_, rfl, rfl, ls.length - (k + 1), by omega, trivial, k + 1, rfl, rfl, by have := HLN.out; have := HLK.out; omega, hgs6, HN2⟩
      | true =>
        have HYS := Lib.hid (HYES.out rfl)
        clear HNO HYES
        have hin6 : w6.ownsRow X2.heap.size 3 1 (.slice (⟨A5, c5, px ++ g⟩ : SLc).A (⟨A5, c5, px ++ g⟩ : SLc).xs.length (⟨A5, c5, px ++ g⟩ : SLc).c) (⟨A5, c5, px ++ g⟩ : SLc).xs.length (flat 1 icell (⟨A5, c5, px ++ g⟩ : SLc).xs) := by dsimp only; rw [HSL.out]; exact hv6
        have hgsY := hgsX.put HLK.out hb56 hin6
        dsimp only at hgsY
        rw [HSL.out] at hgsY
        have d6 := (own_at hgs6.pl.outer HLK.out (j := 0) (by decide))
        rw [Nat.mul_one, Nat.add_zero] at d6
        obtain ⟨d6a, d6b⟩ := d6
        have e6 := (own_at hgsY.row HIL.out (j := 0) (by decide))
        rw [Nat.mul_one, Nat.add_zero] at e6
        obtain ⟨e6a, e6b⟩ := e6
        have hgsZ := hgsY.insSet HIL.out ((k : Nat) : Int)
        have HGZ := Lib.hid hgsZ
        clear hgsZ hgsY hgs6 hv6 hin6 hgsX hb56
        go_wp2_with fail
        exact ⟨_, rfl, rfl, n - (i + 1), by omega, trivial, i + 1, some ⟨g0, 0, none⟩, c, ls.set k ⟨A5, c5, px ++ g⟩, ins.set i ((k : Nat) : Int), rfl, by rw [List.length_set]; rfl, rfl, hlt, by rw [List.length_set]; exact HGZ.out, Lib.hid ⟨by rw [HYS.out, List.map_set], by rw [HYS.out]⟩⟩
    · have HFN : Hid (M.fit t (ls.map (·.xs)) g k0 = none) := Lib.hid (by rw [HFT.out]; exact M.fit_end (by rw [List.length_map]; exact hlk))
      have HZS := Lib.hid (HZ.out HFN.out)
      have qk0 : decide ((k : Int) < (ls.length : Int)) = false := decide_eq_false (by omega)
      have e6 := (own_at hgs2.row HIL.out (j := 0) (by decide))
      rw [Nat.mul_one, Nat.add_zero] at e6
      obtain ⟨e6a, e6b⟩ := e6
      have hgsY := hgs2.insSet HIL.out ((ls.length : Nat) : Int)
      obtain ⟨Y, hY⟩ : ∃ Y, W2.setCell ⟨bI, i, none⟩ (.int .i64 ((ls.length : Nat) : Int)) = Y := ⟨_, rfl⟩
      rw [hY] at hgsY
      obtain ⟨hgo1, -⟩ := HGO.out Y hgsY.bel
      have kL := cloneP_ok bg _ g Y hgo1 (by have := HGm.out.1; omega)
      have hlsb : ls.length ≤ 512 := by have := HLN.out; omega
      clear hgs2 hgo1 HY HZ
      go_wp2_with fail
      refine kL.mono ?_
      rintro e w5 ⟨⟨v5, rfl, hv5⟩, hb5⟩
      clear kL hY e6a e6b
      obtain ⟨A5, c5, hv, -⟩ := own_slice (by decide) hv5
      subst hv
      have hgs5 := hgsY.next hb5
      have hsep := hgs5.sep
      go_wp2_with (at_builtin; refine wpList_push (w0 := w) (cell := slcell) (y := (⟨A5, c5, g⟩ : SLc)) rfl _ _ _ rfl base w.heap.size 29 il _ 24 Tryz.underlying39 Hil.out Hzl0.out Hzl1.out Hzl2.out rfl (by decide) _ _ _ rfl hgs5.pl.outer _ _ rfl 1 rfl (sl_one _) (by unfold maxLen; omega) (by omega) hgs5.big (by omega) hgs5.bel ?_; intro v' w8 hown8 hb8 hg8; obtain ⟨g8, cap8, rfl⟩ := ownsRow_succ hown8; have hgs8 := hgsY.push hb5 (s := ⟨A5, c5, g⟩) hv5 hown8 hg8)
      exact ⟨_, rfl, rfl, n - (i + 1), by omega, trivial, i + 1, some ⟨g8, 0, none⟩, cap8, ls ++ [⟨A5, c5, g⟩], ins.set i ((ls.length : Nat) : Int), rfl, by rw [List.length_append]; rfl, rfl, hlt, by rw [List.length_append]; exact hgs8, Lib.hid ⟨by rw [HZS.out, List.map_append]; rfl, by rw [HZS.out, List.length_map]⟩⟩
  · obtain rfl : i = n := by omega
    have q0 : decide ((i : Int) < (i : Int)) = false := decide_eq_false (by omega)
    have HI := Lib.hid (M.GyI.all (t := t) (W := Wt) HOD.out.small i (by rw [HGN.out]; exact Nat.le_refl _))
    have HPX : Hid (ls.map (·.xs) = (M.gyN t G Wt G.length).1) := Lib.hid (by rw [HGN.out]; exact HST.out.1)
    have HROW : Hid (∀ s ∈ ls.map (·.xs), s.length ≤ 1000000) := Lib.hid (fun s hs => by rw [HST.out.1] at hs; have := (HI.out.row s hs).1; omega)
    have hl0 : ls.length ≤ 512 := by
      have := HI.out.len
      rw [← HST.out.1, List.length_map] at this
      omega
    have HL0 := Lib.hid hl0
    clear HST HI
    go_wp2_with fail
    refine wp_loop_mrg [12, 66, 67, 68, 69, 70, 71, 72] (fun mm f ds W3 => ds = [] ∧ ∃ (k : Nat) (ls2 : List SLc), f 66 = .int .i64 k ∧ mm = ls.length - k ∧ k ≤ ls.length ∧ ls2.length = ls.length ∧ GyS w W3 base bI (.slice GA i gc) (.slice (some ⟨bW, 0, none⟩) i i) (.slice A ls2.length c) ls2 i ins ∧ Hid (∀ j (hj : j < ls2.length), ls2[j].xs = if j < k then M.isort ((ls.map (·.xs)).getD j []) else (ls.map (·.xs)).getD j [])) ls.length ⟨rfl, 0, ls, rfl, rfl, Nat.zero_le _, rfl, hgs, Lib.hid (fun j hj => by rw [if_neg (Nat.not_lt_zero _), List.getD_eq_getElem?_getD, List.getElem?_map, List.getElem?_eq_getElem hj]; rfl)⟩ ?_
    clear hgs hl0
    intro c3' T3' hc2 hT2
    rintro mm f ds W3 ⟨rfl, k, ls2, hf66, rfl, hk, hl2, hgs3, HL2⟩
    replace hc2 := hc2.out
    subst hc2
    replace hT2 := hT2.out
    subst hT2
    generalize hF : mrgF _ 0 _ _ = F
    simp only [mrg_hit, mrg_miss, mrg_end, Nat.reduceBEq, Nat.reduceAdd] at hF
    rw [hf66] at hF
    subst hF
    by_cases hltk : k < ls.length
    · have hk2 : k < ls2.length := by rw [hl2]; exact hltk
      obtain ⟨la2, hla2, hlb2, d0⟩ := (Sl.of_own (by decide) hgs3.pl.outer : Sl 1 slcell W3 W3.heap.size A ls2).sl1 hk2
      obtain ⟨pA, pc, px, hsp⟩ : ∃ A c xs, ls2[k]'hk2 = ⟨A, c, xs⟩ := ⟨_, _, _, rfl⟩
      have hx := HL2.out k hk2
      rw [if_neg (Nat.lt_irrefl _), hsp] at hx
      dsimp only at hx
      have hpm : px ∈ ls.map (·.xs) := by
        rw [hx, List.getD_eq_getElem?_getD, List.getElem?_eq_getElem (by rw [List.length_map]; exact hltk)]
        exact List.getElem_mem _
      have hin := hgs3.pl.inner k hk2
      rw [hsp] at d0 hin
      dsimp only at d0 hin
      have kS := sortP_any hin (HROW.out px hpm)
      have HX := Lib.hid hx
      have HSP := Lib.hid hsp
      have HL3 := Lib.hid hl2
      have HK2 := Lib.hid hk2
      have xk0 : (0 : Int) ≤ (k : Int) := by omega
      have yk0 : (k : Int) < (ls.length : Int) := by omega
      have zk0 : (k : Int) + 1 ≤ 512 := by have := HL0.out; omega
      have qk0 : decide ((k : Int) < (ls.length : Int)) = true := decide_eq_true yk0
      clear hx hpm hin hsp hl2
      subst hla2
      go_wp2_with fail
      refine kS.mono ?_
      rintro e w5 ⟨rfl, ho5, hg5⟩
      clear kS d0
      have hgs5 := hgs3.turn HK2.out (xs := M.isort px) (by rw [M.isort_len, HSP.out]) (by rw [HSP.out]; exact ho5) (by rw [HSP.out]; exact hg5)
      have HL5 : Hid (∀ j (hj : j < (ls2.set k ⟨ls2[k].A, ls2[k].c, M.isort px⟩).length), (ls2.set k ⟨ls2[k].A, ls2[k].c, M.isort px⟩)[j].xs = if j < k + 1 then M.isort ((ls.map (·.xs)).getD j []) else (ls.map (·.xs)).getD j []) := Lib.hid (fun j hj => by
        rw [List.length_set] at hj
        by_cases e : k = j
        · subst e
          rw [List.getElem_set_self, if_pos (Nat.lt_succ_self _), ← HX.out]
        · rw [List.getElem_set_ne e, HL2.out j hj]
          by_cases h1 : j < k
          · rw [if_pos h1, if_pos (by omega)]
          · rw [if_neg h1, if_neg (by omega)])
      have HG5 := Lib.hid hgs5
      clear hgs5 hgs3 HL2 ho5 hg5
      go_wp2_with fail
      exact ⟨_, rfl, rfl, ls.length - (k + 1), by omega, trivial, k + 1, ls2.set k ⟨ls2[k].A, ls2[k].c, M.isort px⟩, rfl, rfl, by omega, by rw [List.length_set]; exact HL3.out, by rw [List.length_set]; exact HG5.out, HL5⟩
    · obtain rfl : k = ls.length := by omega
      have qk0 : decide ((ls.length : Int) < (ls.length : Int)) = false := decide_eq_false (by omega)
      have hmap : ls2.map (·.xs) = M.gy t G Wt := by
        unfold M.gy
        rw [← HPX.out]
        refine List.ext_getElem (by simp [hl2]) fun j h1 h2 => ?_
        rw [List.length_map] at h1
        rw [List.getElem_map, HL2.out j h1, if_pos (by rw [← hl2]; exact h1), List.getElem_map, List.getD_eq_getElem?_getD, List.getElem?_eq_getElem (by rw [List.length_map, ← hl2]; exact h1)]
        rfl
      have HMP := Lib.hid hmap
      have HL3 := Lib.hid hl2
      clear hmap hl2
      go_wp2_with fail
      rw [Exit.noGoto_ret]
      go_ret
      have hlo := hgs3.pl.lo
      have hsep := hgs3.sep
      exact ⟨⟨A, c, ls2, by rw [HL3.out]; rfl, ⟨own_base hlo.outer (by omega), fun q hq => own_base (hlo.inner q hq) (by omega)⟩, HMP.out⟩, hgs3.bel⟩
end Go.Proofs.YtpkepgcmifdpfaaGreatDoor
end

section
namespace Go.Proofs.YtpkepgcmifdpfaaGreatDoor
open Go Go.RowKit Go.Maps
set_option maxRecDepth 100000
def M.tgr (t : Tr) : List (List Int) := M.grps t.ps t.l
def M.twt (t : Tr) : List (List Int) := M.wts (M.tgr t) (M.edg t.ps t.l)
def M.gyP (t : Tr) : List (List Int) := M.gy t (M.tgr t) (M.twt t)
def M.gyIs (t : Tr) (er : Int) : Prop := (er ≠ 0 ∧ M.trIs t er) ∨ (M.trIs t 0 ∧ ¬ (∀ g ∈ M.tgr t, M.small t g = true) ∧ er = 490) ∨ (M.trIs t 0 ∧ (∀ g ∈ M.tgr t, M.small t g = true) ∧ er = 0)
theorem OrD.of {w : World} {bg : Nat} {t : Tr} {GA : Option Addr} {gc : Nat} {gs : List SLc} {bW : Nat} {wl : List SLc} (hok : M.mvsOk t.l) (h1 : LO w bg (.slice GA gs.length gc) gs) (h2 : gs.map (·.xs) = M.grps t.ps t.l) (h3 : LL w (some ⟨bW, 0, none⟩) wl) (h4 : wl.map (·.xs) = M.wts (M.grps t.ps t.l) (M.edg t.ps t.l)) : OrD w bg (M.tgr t) (M.twt t) GA gc gs bW wl := by
  have hln := M.grps_len_le (ps := t.ps) hok
  refine ⟨h1, h3, h2, h4, fun g hg => M.grps_small hok hg, ?_, M.wts_len _ _, fun r hr => ?_⟩
  · have := hok.1
    unfold M.tgr
    omega
  · obtain ⟨k, hk, rfl⟩ := List.getElem_of_mem hr
    have e : (M.twt t)[k] = (M.wts (M.tgr t) (M.edg t.ps t.l)).getD k [] := by
      rw [List.getD_eq_getElem?_getD, List.getElem?_eq_getElem (show k < (M.wts (M.tgr t) (M.edg t.ps t.l)).length from hk)]
      rfl
    have hk2 : k < (M.tgr t).length := by
      have h5 := M.wts_len (M.tgr t) (M.edg t.ps t.l)
      have h6 : k < (M.wts (M.tgr t) (M.edg t.ps t.l)).length := hk
      omega
    rw [e]
    refine ⟨?_, fun x hx => ?_⟩
    · have h7 := M.wts_row_len (M.tgr t) (M.edg t.ps t.l) k
      have h8 := M.edg_len (ps := t.ps) hok
      omega
    · obtain ⟨e, -, -, -, rfl⟩ := (M.mem_wts (by omega)).1 hx
      have := M.gIx_lt (gs := M.tgr t) (by omega) e.2
      omega
set_option maxHeartbeats 32000000 in
theorem Greedy_ok (a : TrA) (t : Tr) (w : World) (ht : Tab64 w) (hm : TrM w a t) :
    Calls Tryz.prog 24 #[trV a t] w fun e w' => (∃ er, M.gyIs t er ∧ ((er ≠ 0 ∧ e = .returned (.tuple #[.slice none 0 0, .int .i64 er])) ∨ (er = 0 ∧ ∃ A c ls, e = .returned (.tuple #[.slice A ls.length c, .int .i64 0]) ∧ LO w' w.heap.size (.slice A ls.length c) ls ∧ ls.map (·.xs) = M.gyP t))) ∧ Below w.heap.size w w' := by
  obtain ⟨X, HX, x0, hB, -⟩ := boxes1 w (trc a t) 28
  have hX := HX.out
  have tx := hm.next hB
  obtain ⟨c0, c1, c2, c3, c4, c5⟩ := x0.c6
  have kB := build_ok a t X tx
  go_enter Tryz.func24, Tryz.ntmps24
  go_wp2_with fail
  clear hX c0 c1 c2 c3 c4 c5
  refine kB.mono ?_
  rintro e w1 ⟨⟨er, her, hc⟩, hb1⟩
  clear kB
  have B1 := after_ hB hb1
  have HER := Lib.hid her
  clear her
  rcases hc with ⟨hne, rfl⟩ | ⟨rfl, b, rfl, hbb, hmd⟩
  · have q0 : (er == 0) = false := by simpa using hne
    have q1 : (er != 0) = true := by simpa using hne
    have HE0 := Lib.hid hne
    clear hne
    go_wp2_with fail
    go_ret2
    exact ⟨⟨er, .inl ⟨HE0.out, HER.out⟩, .inl ⟨HE0.out, rfl⟩⟩, B1⟩
  have kO := order_ok b a t w1 (ht.kept B1) hmd
  have HMD := Lib.hid hmd
  have HBB := Lib.hid hbb
  clear hmd hbb
  go_wp2_with fail
  refine kO.mono ?_
  rintro e w2 ⟨hc, hb2⟩
  clear kO
  have B2 := after_ B1 hb2
  rcases hc with ⟨hns, rfl⟩ | ⟨hall, GA, gc, gs, bW, wl, rfl, hlo, hgx, hll, hwx⟩
  · obtain ⟨X2, HX2, x2, hbX2, -⟩ := boxes1 w2 #[.slice none 0 0, .slice none 0 0] 90
    have hX2 := HX2.out
    have d0 := x2.cell 0 rfl
    have d1 := (x2.set 0 (.slice none 0 0)).cell 1 rfl
    have f0 := x2.frozen 0
    have f1 := (x2.set 0 (.slice none 0 0)).frozen 1
    have HNS := Lib.hid hns
    have B3 := after_ B2 hbX2
    have kb := (B3.setCell (p := ⟨w2.heap.size, 0, none⟩) B2.size (.slice none 0 0)).setCell (p := ⟨w2.heap.size, 1, none⟩) B2.size (.slice none 0 0)
    have HKB := Lib.hid kb
    clear hns kb B3 x2 hbX2
    go_wp2_with fail
    go_ret2
    exact ⟨⟨490, .inr (.inl ⟨HER.out, HNS.out, rfl⟩), .inl ⟨by decide, rfl⟩⟩, HKB.out⟩
  · obtain ⟨X2, HX2, x2, hbX2, -⟩ := boxes1 w2 #[.slice none 0 0, .slice none 0 0] 90
    have hX2 := HX2.out
    have d0 := x2.cell 0 rfl
    have d1 := (x2.set 0 (.slice GA gs.length gc)).cell 1 rfl
    have f0 := x2.frozen 0
    have f1 := (x2.set 0 (.slice GA gs.length gc)).frozen 1
    obtain ⟨Y, hY⟩ : ∃ Y, (X2.setCell ⟨w2.heap.size, 0, none⟩ (.slice GA gs.length gc)).setCell ⟨w2.heap.size, 1, none⟩ (.slice (some ⟨bW, 0, none⟩) wl.length wl.length) = Y := ⟨_, rfl⟩
    have xY : Box Y w2.heap.size #[.slice GA gs.length gc, .slice (some ⟨bW, 0, none⟩) wl.length wl.length] 90 := hY ▸ (x2.set 0 _).set 1 _
    have hbY : Below w2.heap.size w2 Y := by rw [← hY]; exact (hbX2.setCell (p := ⟨w2.heap.size, 0, none⟩) (Nat.le_refl _) _).setCell (p := ⟨w2.heap.size, 1, none⟩) (Nat.le_refl _) _
    have e0 := xY.cell 0 rfl
    have e1 := xY.cell 1 rfl
    have hok : M.mvsOk t.l := HMD.out.good.1.1
    have hod := (OrD.of hok hlo hgx hll hwx).next hbY
    have mdY := HMD.out.next (after_ hb2 hbY)
    have kG := greedy_ok b w1.heap.size a t (M.tgr t) (M.twt t) GA gc gs bW wl Y mdY hod
    have BY := after_ B2 hbY
    have HAL := Lib.hid hall
    clear hall hlo hgx hll hwx hbX2 hbY xY x2 hok hod mdY
    go_wp2_with fail
    refine kG.mono ?_
    rintro e w3 ⟨⟨A, c, ls, rfl, hlo, hmp⟩, hb3⟩
    clear kG
    have HMP := Lib.hid hmp
    have HLO := Lib.hid hlo
    have B3 := after_ BY hb3
    have HBS := Lib.hid BY.size
    clear hmp hlo hX2 d0 d1 f0 f1 hY e0 e1
    go_wp2_with fail
    go_ret2
    exact ⟨⟨0, .inr (.inr ⟨HER.out, HAL.out, rfl⟩), .inr ⟨rfl, A, c, ls, rfl, ⟨own_base HLO.out.outer HBS.out, fun q hq => own_base (HLO.out.inner q hq) HBS.out⟩, HMP.out⟩⟩, B3⟩
end Go.Proofs.YtpkepgcmifdpfaaGreatDoor
end

section
namespace Go.Proofs.YtpkepgcmifdpfaaGreatDoor
open Go
namespace M
theorem isort_id {a : List Int} (h : a.Pairwise (· ≤ ·)) : isort a = a :=
  (isort_perm a).eq_of_pairwise (fun x y _ _ h1 h2 => by omega) (isort_le a) h
structure GyJ (G : List (List Int)) (i : Nat) (st : List (List Int) × List Int) : Prop where
  ins : st.2.length = G.length
  own : ∀ j, j < i → ∃ n : Nat, st.2.getD j 0 = (n : Nat) ∧ n < st.1.length
  rest : ∀ j, i ≤ j → st.2.getD j 0 = 0
  mem : ∀ n, n < st.1.length → ∀ x, x ∈ st.1.getD n [] ↔ ∃ j, j < i ∧ st.2.getD j 0 = (n : Nat) ∧ x ∈ G.getD j []
theorem getD_setI {W : List Int} {i k : Nat} {r : Int} (hi : i < W.length) : (W.set i r).getD k 0 = if k = i then r else W.getD k 0 := by
  rw [List.getD_eq_getElem?_getD, List.getD_eq_getElem?_getD, List.getElem?_set]
  by_cases e : i = k
  · subst e; simp [hi]
  · rw [if_neg e, if_neg (fun h => e h.symm)]
theorem GyJ.start (G : List (List Int)) : GyJ G 0 ([], List.replicate G.length 0) where
  ins := by simp
  own := fun j h => absurd h (by omega)
  rest := fun j _ => by rw [List.getD_eq_getElem?_getD, List.getElem?_replicate]; split <;> rfl
  mem := fun n h => absurd h (by simp)
theorem getD_snoc {p : List (List Int)} {g : List Int} {n : Nat} : (p ++ [g]).getD n [] = if n = p.length then g else p.getD n [] := by
  rw [List.getD_eq_getElem?_getD, List.getD_eq_getElem?_getD]
  by_cases h : n < p.length
  · rw [if_neg (by omega), List.getElem?_append_left h]
  · by_cases e : n = p.length
    · subst e; rw [if_pos rfl, List.getElem?_append_right (Nat.le_refl _)]; simp
    · rw [if_neg e, List.getElem?_eq_none (by simp; omega), List.getElem?_eq_none (by omega)]
theorem GyJ.step {t : Tr} {G W : List (List Int)} {i : Nat} {st : List (List Int) × List Int} (h : GyJ G i st) (hi : i < G.length) : GyJ G (i + 1) (gyStep t W st i (G.getD i [])) := by
  have hil : i < st.2.length := by rw [h.ins]; exact hi
  have hex : ∀ (p : List (List Int)) (k : Nat) (_ : k < p.length) (_ : st.1.length ≤ p.length) (_ : ∀ n, n < p.length → ∀ x, x ∈ p.getD n [] ↔ (n < st.1.length ∧ x ∈ st.1.getD n []) ∨ n = k ∧ x ∈ G.getD i []), GyJ G (i + 1) (p, st.2.set i ((k : Nat) : Int)) := by
    intro p k hk hp hm
    refine ⟨by rw [List.length_set]; exact h.ins, fun j hj => ?_, fun j hj => ?_, fun n hn x => ?_⟩
    · simp only
      rw [getD_setI hil]
      by_cases e : j = i
      · rw [if_pos e]; exact ⟨k, rfl, hk⟩
      · rw [if_neg e]
        obtain ⟨n, h1, h2⟩ := h.own j (by omega)
        exact ⟨n, h1, by omega⟩
    · simp only
      rw [getD_setI hil, if_neg (by omega)]
      exact h.rest j (by omega)
    · simp only
      rw [hm n hn x]
      constructor
      · rintro (⟨h1, h2⟩ | ⟨rfl, h2⟩)
        · obtain ⟨j, h3, h4, h5⟩ := (h.mem n h1 x).1 h2
          exact ⟨j, by omega, by rw [getD_setI hil, if_neg (by omega)]; exact h4, h5⟩
        · exact ⟨i, by omega, by rw [getD_setI hil, if_pos rfl], h2⟩
      · rintro ⟨j, h3, h4, h5⟩
        rw [getD_setI hil] at h4
        by_cases e : j = i
        · rw [if_pos e] at h4
          subst e
          exact .inr ⟨by omega, h5⟩
        · rw [if_neg e] at h4
          obtain ⟨n', h6, h7⟩ := h.own j (by omega)
          have : n' = n := by omega
          subst this
          exact .inl ⟨h7, (h.mem n' h7 x).2 ⟨j, by omega, h4, h5⟩⟩
  unfold gyStep
  split
  · rename_i k hk
    obtain ⟨-, h2, -, -⟩ := fit_some hk
    refine hex _ k (by rw [List.length_set]; exact h2) (by rw [List.length_set]; exact Nat.le_refl _) fun n hn x => ?_
    rw [List.length_set] at hn
    rw [getD_set h2]
    by_cases e : n = k
    · subst e
      rw [if_pos rfl, List.mem_append]
      constructor
      · rintro (h3 | h3)
        · exact .inl ⟨hn, h3⟩
        · exact .inr ⟨rfl, h3⟩
      · rintro (⟨-, h3⟩ | ⟨-, h3⟩)
        · exact .inl h3
        · exact .inr h3
    · rw [if_neg e]
      exact ⟨fun h3 => .inl ⟨hn, h3⟩, fun h3 => h3.elim (fun h4 => h4.2) fun h4 => absurd h4.1 e⟩
  · refine hex _ st.1.length (by simp) (by simp) fun n hn x => ?_
    rw [getD_snoc]
    by_cases e : n = st.1.length
    · rw [if_pos e]
      exact ⟨fun h3 => .inr ⟨e, h3⟩, fun h3 => h3.elim (fun h4 => absurd h4.1 (by omega)) fun h4 => h4.2⟩
    · rw [if_neg e]
      have : n < st.1.length := by simp at hn; omega
      exact ⟨fun h3 => .inl ⟨this, h3⟩, fun h3 => h3.elim (fun h4 => h4.2) fun h4 => absurd h4.1 e⟩
theorem GyJ.all (t : Tr) (G W : List (List Int)) : ∀ i, i ≤ G.length → GyJ G i (gyN t G W i)
  | 0, _ => GyJ.start G
  | i + 1, h => (GyJ.all t G W i (by omega)).step (by omega)
section
variable {t : Tr}
end
def atN : List Int → Int → Nat
  | [], _ => 0
  | y :: r, x => if y < x then atN r x + 1 else 0
theorem atN_le (out : List Int) (x : Int) : atN out x ≤ out.length := by
  induction out with
  | nil => exact Nat.le_refl _
  | cons y r ih => unfold atN; split <;> simp <;> omega
theorem atN_lt {out : List Int} {x : Int} {k : Nat} (h : k < atN out x) : out.getD k 0 < x := by
  induction out generalizing k with
  | nil => simp [atN] at h
  | cons y r ih =>
    unfold atN at h
    split at h
    · rename_i hy
      cases k with
      | zero => exact hy
      | succ k => exact ih (by omega)
    · omega
theorem atN_at {out : List Int} {x : Int} (h : atN out x < out.length) : ¬ out.getD (atN out x) 0 < x := by
  induction out with
  | nil => simp [atN] at h
  | cons y r ih =>
    unfold atN at h ⊢
    split at h
    · rename_i hy
      rw [if_pos hy]
      exact ih (by simpa using h)
    · rename_i hy
      rw [if_neg hy]
      exact hy
def sIns (out : List Int) (x : Int) : List Int := out.take (atN out x) ++ [x] ++ out.drop (atN out x)
def sIn (l : List Int) : List Int := l.foldl sIns []
theorem sIns_perm (out : List Int) (x : Int) : (sIns out x).Perm (out ++ [x]) := by
  unfold sIns
  have h1 : (out.take (atN out x) ++ [x] ++ out.drop (atN out x)).Perm (out.take (atN out x) ++ out.drop (atN out x) ++ [x]) := by
    rw [List.append_assoc, List.append_assoc]
    exact List.Perm.append_left _ List.perm_append_comm
  rwa [List.take_append_drop] at h1
theorem sIns_cons (y : Int) (r : List Int) (x : Int) : sIns (y :: r) x = if y < x then y :: sIns r x else x :: y :: r := by
  unfold sIns
  conv => lhs; unfold atN
  split <;> simp
theorem sIns_sorted {out : List Int} (h : out.Pairwise (· ≤ ·)) (x : Int) : (sIns out x).Pairwise (· ≤ ·) := by
  induction out with
  | nil => simp [sIns, atN]
  | cons y r ih =>
    rw [sIns_cons]
    rw [List.pairwise_cons] at h
    split
    · rename_i hy
      rw [List.pairwise_cons]
      refine ⟨fun a ha => ?_, ih h.2⟩
      rcases List.mem_append.1 ((sIns_perm r x).mem_iff.1 ha) with h1 | h1
      · exact h.1 a h1
      · rw [List.mem_singleton.1 h1]; omega
    · rename_i hy
      rw [List.pairwise_cons]
      refine ⟨fun a ha => ?_, List.pairwise_cons.2 h⟩
      rcases List.mem_cons.1 ha with rfl | h1
      · omega
      · have := h.1 a h1; omega
theorem sIn_snoc (l : List Int) (x : Int) : sIn (l ++ [x]) = sIns (sIn l) x := by unfold sIn; rw [List.foldl_append]; rfl
theorem sIn_eq (l : List Int) : sIn l = isort l := by
  have h : (sIn l).Perm l ∧ (sIn l).Pairwise (· ≤ ·) := by
    induction l using snocRec with
    | nil => exact ⟨List.Perm.refl _, List.Pairwise.nil⟩
    | snoc l x ih =>
      rw [sIn_snoc]
      exact ⟨(sIns_perm _ _).trans (ih.1.append_right [x]), sIns_sorted ih.2 x⟩
  exact (h.1.trans (isort_perm l).symm).eq_of_pairwise (fun x y _ _ h1 h2 => by omega) h.2 (isort_le l)
end M
end Go.Proofs.YtpkepgcmifdpfaaGreatDoor
end

section
namespace Go.Proofs.YtpkepgcmifdpfaaGreatDoor
open Go Go.RowKit Go.Maps
set_option maxRecDepth 100000
set_option maxHeartbeats 32000000 in
theorem best_reg9 {Q : Exit → Act → World → Prop} {cd : Code} {dl : List Deferred} {Z0 Z2 Z3 Z4 Z5 Z6 Z8 Za Zb Zc Zd Ze Zf Zg Zh Zi Zj Zk Zl Zm Zn Zo Zp Zq Zr Zs Zt Zu Zv Zw Zx Zy Zz Z10 Z11 Z12 Z13 Z14 Z15 Z16 Z17 Z18 Z19 Z1a Z1b Z1c Z1d Z1e Z1f Z1g Z1h Z1i Z1j Z1k Z1l Z1m Z1n Z1o Z1p Z1q Z1r Z1s Z1t Z1u Z1v Z1w Z1x Z1y Z1z Z20 Z21 Z22 Z23 Z24 Z25 : Value} {b bo bg bW gc : Nat} {a : TrA} {t : Tr} {G W : List (List Int)} {GA : Option Addr} {gs wl : List SLc} {bud : Int} {X : World} (hm : MD X b a t) (ho : OrD X bg G W GA gc gs bW wl) (hbo : Box X bo #[.slice GA gs.length gc, .slice (some ⟨bW, 0, none⟩) wl.length wl.length] 90) (hcd : (Tryz.f27.body.bind (regionOf 9)) = some cd)
    (hQ : ∀ (y37 y38 y39 y40 y41 y42 y43 y44 y45 : Value) (wo : World) (sb mb : Nat) (A : Option Addr) (c : Nat) (ls : List SLc), Box wo sb #[.pointer (some ⟨b, 0, none⟩), .slice GA gs.length gc, .slice (some ⟨bW, 0, none⟩) wl.length wl.length, .slice A ls.length c, .int .i64 bud, .int .i64 0, .map (some mb)] 98 → LO wo X.heap.size (.slice A ls.length c) ls → ls.map (·.xs) = M.gy t G W → X.heap.size ≤ sb → Below X.heap.size X wo → Q .normal ⟨#[Z0,.int .i64 bud,Z2,Z3,Z4,Z5,Z6,.pointer (some ⟨b, 0, none⟩),Z8,.pointer (some ⟨bo, 0, none⟩),.pointer (some ⟨sb, 0, none⟩),Zb,Zc,Zd,Ze,Zf,Zg,Zh,Zi,Zj,Zk,Zl,Zm,Zn,Zo,Zp,Zq,Zr,Zs,Zt,Zu,Zv,Zw,Zx,Zy,Zz,Z10,y37,y38,y39,y40,y41,y42,y43,y44,y45,Z1a,Z1b,Z1c,Z1d,Z1e,Z1f,Z1g,Z1h,Z1i,Z1j,Z1k,Z1l,Z1m,Z1n,Z1o,Z1p,Z1q,Z1r,Z1s,Z1t,Z1u,Z1v,Z1w,Z1x,Z1y,Z1z,Z20,Z21,Z22,Z23,Z24,Z25], dl⟩ wo) :
    cd.wp Tryz.prog Q ⟨#[Z0,.int .i64 bud,Z2,Z3,Z4,Z5,Z6,.pointer (some ⟨b, 0, none⟩),Z8,.pointer (some ⟨bo, 0, none⟩),Za,Zb,Zc,Zd,Ze,Zf,Zg,Zh,Zi,Zj,Zk,Zl,Zm,Zn,Zo,Zp,Zq,Zr,Zs,Zt,Zu,Zv,Zw,Zx,Zy,Zz,Z10,Z11,Z12,Z13,Z14,Z15,Z16,Z17,Z18,Z19,Z1a,Z1b,Z1c,Z1d,Z1e,Z1f,Z1g,Z1h,Z1i,Z1j,Z1k,Z1l,Z1m,Z1n,Z1o,Z1p,Z1q,Z1r,Z1s,Z1t,Z1u,Z1v,Z1w,Z1x,Z1y,Z1z,Z20,Z21,Z22,Z23,Z24,Z25], dl⟩ X := by
  rw [show (Tryz.f27.body.bind (regionOf 9)) = some (Code.region 9 _ true) from rfl] at hcd
  obtain rfl := Option.some.inj hcd
  clear hcd
  dsimp only at hQ ⊢
  have D0 := hbo.cell 0 rfl
  have D1 := hbo.cell 1 rfl
  have L0 := hbo.lt
  have hmm := @run_makeMap Tryz.prog
  have HQ := Lib.hid hQ
  clear hQ
  refine wp_region_noPanic ?_
  refine wp_region_any (by kernel_rfl) ?_
  refine wpAny_of_L (S := (fun (ls : Array Bool) (w' : World) => ls.getD 9 true = false → w'.cell? ⟨bo, 0, none⟩ = some (.slice GA gs.length gc) ∧ w'.cell? ⟨bo, 1, none⟩ = some (.slice (some ⟨bW, 0, none⟩) wl.length wl.length))) _ _ _ _ ?_
  change wpAnyL Tryz.prog _ _ _ _ _ _ _ X.drew
  refine wpAnyL_take (i := 0) (q := 9) (v := .pointer (some ⟨b, 0, none⟩)) (fun w' => True) rfl (by kernel_rfl) (by kernel_rfl) (by kernel_rfl) (fun c a w h => h) rfl (by kernel_rfl) (by decide) (fun ls w => by simp) (fun ls w h1 h2 => trivial) rfl rfl (fun w h => by go_simp) (fun _ => ⟨D0, D1⟩) ?_
  try simp only [Act.put]
  refine wpAnyL_take (i := 1) (q := 9) (v := .agg #[.slice GA gs.length gc, .slice (some ⟨bW, 0, none⟩) wl.length wl.length]) (fun w' => w'.cell? ⟨bo, 0, none⟩ = some (.slice GA gs.length gc) ∧ w'.cell? ⟨bo, 1, none⟩ = some (.slice (some ⟨bW, 0, none⟩) wl.length wl.length)) rfl (by kernel_rfl) (by kernel_rfl) (by kernel_rfl) (fun c a w h => h) rfl (by kernel_rfl) (by decide) (fun ls w => by simp) (fun ls w h1 h2 => h2 h1) rfl rfl (fun w ⟨h, k⟩ => by go_simp) (fun _ => ⟨D0, D1⟩) ?_
  try simp only [Act.put]
  refine wpAnyL_take (i := 2) (q := 9) (v := .pointer (some ⟨b, 0, none⟩)) (fun w' => True) rfl (by kernel_rfl) (by kernel_rfl) (by kernel_rfl) (fun c a w h => h) rfl (by kernel_rfl) (by decide) (fun ls w => by simp) (fun ls w h1 h2 => trivial) rfl rfl (fun w h => by go_simp) (fun _ => ⟨D0, D1⟩) ?_
  try simp only [Act.put]
  refine wpAnyL_take (i := 3) (q := 9) (v := .agg #[.slice GA gs.length gc, .slice (some ⟨bW, 0, none⟩) wl.length wl.length]) (fun w' => w'.cell? ⟨bo, 0, none⟩ = some (.slice GA gs.length gc) ∧ w'.cell? ⟨bo, 1, none⟩ = some (.slice (some ⟨bW, 0, none⟩) wl.length wl.length)) rfl (by kernel_rfl) (by kernel_rfl) (by kernel_rfl) (fun c a w h => h) rfl (by kernel_rfl) (by decide) (fun ls w => by simp) (fun ls w h1 h2 => h2 h1) rfl rfl (fun w ⟨h, k⟩ => by go_simp) (fun _ => ⟨D0, D1⟩) ?_
  try simp only [Act.put]
  refine wpAnyL_take (i := 5) (q := 9) (v := .int .i64 bud) (fun w' => True) rfl (by kernel_rfl) (by kernel_rfl) (by kernel_rfl) (fun c a w h => h) rfl (by kernel_rfl) (by decide) (fun ls w => by simp) (fun ls w h1 h2 => trivial) rfl rfl (fun w h => by go_simp) (fun _ => ⟨D0, D1⟩) ?_
  try simp only [Act.put]
  refine wpAnyL_all (rs := [4, 6]) (by kernel_rfl) (by simp) (fun i hi => ?_)
  rcases List.mem_cons.1 hi with rfl | hi
  · refine wpOp_K (fun K hK => ?_)
    refine wpOp_one rfl rfl ?_
    go_simp
    have hb0 : Below X.heap.size X X.drew := (Below.refl _ _).drew
    refine (greedy_ok b bg a t G W GA gc gs bW wl X.drew (hm.next hb0) (ho.next hb0)).mono ?_
    rintro e w3 ⟨⟨A, c, ls, rfl, hlo, hmp⟩, hb3⟩
    have hb3' : Below X.heap.size X w3 := below_undrew hb3
    have x3 := hbo.below hb3'
    refine hK _ _ ⟨fun _ => ⟨x3.cell 0 rfl, x3.cell 1 rfl⟩, ?_⟩
    clear hK K
    try simp only [Act.put]
    refine wpAnyL_one (i := 6) (by kernel_rfl) ?_
    refine wpOp_K (fun K hK => ?_)
    refine wpOp_one rfl rfl ?_
    go_simp
    have hb4 : Below w3.heap.size w3 (w3.alloc (.map #[] 0)) := (Below.refl _ _).alloc (Nat.le_refl _) _
    have x4 := x3.below hb4
    refine hK _ _ ⟨fun _ => ⟨x4.cell 0 rfl, x4.cell 1 rfl⟩, ?_⟩
    clear hK K
    try simp only [Act.put]
    refine wpAnyL_one (i := 7) (by kernel_rfl) ?_
    refine wpOp_K (fun K hK => ?_)
    refine wpOp_one rfl rfl ?_
    go_simp
    refine hK _ _ ⟨(fun _ => ⟨x4.cell 0 rfl, x4.cell 1 rfl⟩), ?_⟩
    clear hK K
    try simp only [Act.put]
    obtain ⟨U, hU⟩ : ∃ U, w3.alloc (.map #[] 0) = U := ⟨_, rfl⟩
    rw [hU] at hb4 x4 ⊢
    refine wpAnyL_one (i := 8) (by kernel_rfl) ?_
    refine wpOp_K (fun K hK => ?_)
    refine wpOp_one rfl rfl ?_
    obtain ⟨Z, HZ, xz, hbZ, hsZ⟩ := boxes1 U #[.pointer (some ⟨b, 0, none⟩), .slice GA gs.length gc, .slice (some ⟨bW, 0, none⟩) wl.length wl.length, .slice A ls.length c, .int .i64 bud, .int .i64 0, .map (some w3.heap.size)] 98
    have hZ := HZ.out
    go_simp
    have x5 := x4.below hbZ
    refine hK _ _ ⟨(fun _ => ⟨x5.cell 0 rfl, x5.cell 1 rfl⟩), ?_⟩
    clear hK K
    try simp only [Act.put]
    refine wpAnyL_one (i := 9) (by kernel_rfl) ?_
    refine wpOp_K (fun K hK => ?_)
    refine wpOp_one rfl rfl ?_
    go_simp
    refine hK _ _ ⟨(fun h => absurd h (by simp)), ?_⟩
    clear hK K
    try simp only [Act.put]
    refine wpAnyL_done (by kernel_rfl) (NoPanic.normal ?_) _
    exact HQ.out _ _ _ _ _ _ _ _ _ _ _ _ A c ls xz ((hlo.below hb4).below hbZ) hmp (Nat.le_trans hb3'.size hb4.size) (after_ hb3' (after_ hb4 hbZ))
  · obtain rfl := List.mem_singleton.1 hi
    refine wpOp_K (fun K hK => ?_)
    refine wpOp_one rfl rfl ?_
    go_simp
    have hb1 : Below X.heap.size X (X.drew.alloc (.map #[] 0)) := ((Below.refl _ _).drew).alloc (Nat.le_refl _) _
    have x1 := hbo.below hb1
    refine hK _ _ ⟨fun _ => ⟨x1.cell 0 rfl, x1.cell 1 rfl⟩, ?_⟩
    clear hK K
    try simp only [Act.put]
    change wpAnyL Tryz.prog _ _ _ _ _ _ _ (X.drew.alloc (.map #[] 0))
    obtain ⟨U, hU⟩ : ∃ U, X.drew.alloc (.map #[] 0) = U := ⟨_, rfl⟩
    rw [hU] at hb1 x1 ⊢
    refine wpAnyL_one (i := 4) (by kernel_rfl) ?_
    refine wpOp_K (fun K hK => ?_)
    refine wpOp_one rfl rfl ?_
    go_simp
    refine (greedy_ok b bg a t G W GA gc gs bW wl U (hm.next hb1) (ho.next hb1)).mono ?_
    rintro e w3 ⟨⟨A, c, ls, rfl, hlo, hmp⟩, hb3⟩
    have x3 := x1.below hb3
    refine hK _ _ ⟨(fun _ => ⟨x3.cell 0 rfl, x3.cell 1 rfl⟩), ?_⟩
    clear hK K
    try simp only [Act.put]
    refine wpAnyL_one (i := 7) (by kernel_rfl) ?_
    refine wpOp_K (fun K hK => ?_)
    refine wpOp_one rfl rfl ?_
    go_simp
    refine hK _ _ ⟨(fun _ => ⟨x3.cell 0 rfl, x3.cell 1 rfl⟩), ?_⟩
    clear hK K
    try simp only [Act.put]
    refine wpAnyL_one (i := 8) (by kernel_rfl) ?_
    refine wpOp_K (fun K hK => ?_)
    refine wpOp_one rfl rfl ?_
    obtain ⟨Z, HZ, xz, hbZ, hsZ⟩ := boxes1 w3 #[.pointer (some ⟨b, 0, none⟩), .slice GA gs.length gc, .slice (some ⟨bW, 0, none⟩) wl.length wl.length, .slice A ls.length c, .int .i64 bud, .int .i64 0, .map (some X.heap.size)] 98
    have hZ := HZ.out
    go_simp
    have x5 := x3.below hbZ
    refine hK _ _ ⟨(fun _ => ⟨x5.cell 0 rfl, x5.cell 1 rfl⟩), ?_⟩
    clear hK K
    try simp only [Act.put]
    refine wpAnyL_one (i := 9) (by kernel_rfl) ?_
    refine wpOp_K (fun K hK => ?_)
    refine wpOp_one rfl rfl ?_
    go_simp
    refine hK _ _ ⟨(fun h => absurd h (by simp)), ?_⟩
    clear hK K
    try simp only [Act.put]
    refine wpAnyL_done (by kernel_rfl) (NoPanic.normal ?_) _
    have hlo2 := hlo.below hbZ
    exact HQ.out _ _ _ _ _ _ _ _ _ _ _ _ A c ls xz ⟨own_base hlo2.outer hb1.size, fun q hq => own_base (hlo2.inner q hq) hb1.size⟩ hmp (Nat.le_trans hb1.size hb3.size) (after_ hb1 (after_ hb3 hbZ))
end Go.Proofs.YtpkepgcmifdpfaaGreatDoor
end

section
namespace Go.Proofs.YtpkepgcmifdpfaaGreatDoor
open Go Go.RowKit Go.Maps
set_option maxRecDepth 100000
set_option maxHeartbeats 32000000 in
theorem Best_bound (a : TrA) (t : Tr) (bud : Int) (w : World) (ht : Tab64 w) (hm : TrM w a t) (hb0 : 0 ≤ bud) (hgood : M.trGood t) (hall : ∀ g ∈ M.tgr t, M.small t g = true) (hbd : (M.gyP t).length ≤ M.leastN t) :
    Calls Tryz.prog 27 #[trV a t, .int .i64 bud] w fun e w' => (∃ A c ls, e = .returned (.tuple #[.slice A ls.length c, .bool true, .int .i64 0]) ∧ LO w' w.heap.size (.slice A ls.length c) ls ∧ ls.map (·.xs) = M.gyP t) ∧ Below w.heap.size w w' := by
  obtain ⟨X, HX, x0, hB, -⟩ := boxes1 w (trc a t) 28
  have hX := HX.out
  have tx := hm.next hB
  obtain ⟨c0, c1, c2, c3, c4, c5⟩ := x0.c6
  have q0 : decide (bud < 0) = false := decide_eq_false (by omega)
  have kV := phValid_ok a t X tx true ⟨fun _ => hgood.1, fun _ => rfl⟩
  go_enter Tryz.func27, Tryz.ntmps27
  go_wp2_with fail
  clear hX c0 c1 c2 c3 c4 c5
  refine kV.mono ?_
  rintro e w1 ⟨rfl, hb1⟩
  clear kV
  have B1 := after_ hB hb1
  have tx1 := tx.next hb1
  obtain ⟨c0, c1, c2, c3, c4, c5⟩ := (x0.below hb1).c6
  have kB := build_ok a t w1 tx1
  have HG := Lib.hid hgood
  have HALL := Lib.hid hall
  have HBD := Lib.hid hbd
  clear hgood hall hbd tx x0 hB hb1 hm
  go_wp2_with fail
  clear c0 c1 c2 c3 c4 c5
  refine kB.mono ?_
  rintro e w2 ⟨⟨er, her, hc⟩, hb2⟩
  clear kB
  have her0 : er = 0 := M.trIs_unique her (.inl ⟨HG.out.1, HG.out.2.1, HG.out.2.2, rfl⟩)
  have B2 := after_ B1 hb2
  rcases hc with ⟨hne, -⟩ | ⟨-, b, rfl, hbb, hmd⟩
  · exact absurd her0 hne
  clear her0 her
  have kO := order_ok b a t w2 (ht.kept B2) hmd
  have HMD := Lib.hid hmd
  clear hmd hbb
  go_wp2_with fail
  refine kO.mono ?_
  rintro e w3 ⟨hc, hb3⟩
  clear kO
  have B3 := after_ B2 hb3
  rcases hc with ⟨hns, -⟩ | ⟨-, GA, gc, gs, bW, wl, rfl, hlo, hgx, hll, hwx⟩
  · exact absurd HALL.out hns
  obtain ⟨X2, HX2, x2, hbX2, -⟩ := boxes1 w3 #[.slice none 0 0, .slice none 0 0] 90
  have hX2 := HX2.out
  have d0 := x2.cell 0 rfl
  have d1 := (x2.set 0 (.slice GA gs.length gc)).cell 1 rfl
  have f0 := x2.frozen 0
  have f1 := (x2.set 0 (.slice GA gs.length gc)).frozen 1
  obtain ⟨Y, hY⟩ : ∃ Y, (X2.setCell ⟨w3.heap.size, 0, none⟩ (.slice GA gs.length gc)).setCell ⟨w3.heap.size, 1, none⟩ (.slice (some ⟨bW, 0, none⟩) wl.length wl.length) = Y := ⟨_, rfl⟩
  have xY : Box Y w3.heap.size #[.slice GA gs.length gc, .slice (some ⟨bW, 0, none⟩) wl.length wl.length] 90 := hY ▸ (x2.set 0 _).set 1 _
  have hbY : Below w3.heap.size w3 Y := by rw [← hY]; exact (hbX2.setCell (p := ⟨w3.heap.size, 0, none⟩) (Nat.le_refl _) _).setCell (p := ⟨w3.heap.size, 1, none⟩) (Nat.le_refl _) _
  have hod := (OrD.of HG.out.1.1 hlo hgx hll hwx).next hbY
  have mdY := HMD.out.next (after_ hb3 hbY)
  have BY := after_ B3 hbY
  clear hlo hgx hll hwx hbX2 hbY x2
  go_wp2_with fail
  clear hX2 d0 d1 f0 f1 hY
  refine best_reg9 mdY hod xY (by kernel_rfl) ?_
  rintro y37 y38 y39 y40 y41 y42 y43 y44 y45 wo sb mb A c ls hsb hlo hmp hge hbo
  dsimp only
  have BO := after_ BY hbo
  have kL := least_ok b a t wo (mdY.next hbo)
  have hln : ls.length = (M.gyP t).length := by rw [← List.length_map (f := (·.xs)), hmp]; rfl
  have hle : ls.length ≤ M.leastN t := by rw [hln]; exact HBD.out
  have HMP := Lib.hid hmp
  have HLO : Hid (LO wo w.heap.size (.slice A ls.length c) ls) := Lib.hid ⟨own_base hlo.outer BY.size, fun q hq => own_base (hlo.inner q hq) BY.size⟩
  generalize M.leastN t = bnd at *
  clear hmp hlo hln mdY hod xY hbo
  go_wp2_with fail
  refine kL.mono ?_
  rintro e w5 ⟨rfl, hb5⟩
  clear kL
  have xs5 := hsb.below hb5
  have B5 := after_ BO hb5
  have HL5 : Hid (LO w5 w.heap.size (.slice A ls.length c) ls) := Lib.hid (HLO.out.below hb5)
  have s3 := xs5.cell 3 rfl
  have q1 : decide ((ls.length : Int) > (bnd : Int)) = false := decide_eq_false (by omega)
  have q2 : decide ((bnd : Int) < (ls.length : Int)) = false := decide_eq_false (by omega)
  have q3 : decide (bnd < ls.length) = false := decide_eq_false (by omega)
  have q4 : ¬ bnd < ls.length := by omega
  have q5 : ¬ ((bnd : Int) < (ls.length : Int)) := by omega
  clear hsb hb5
  go_wp2_with fail
  refine wp_loop_mrg [12, 13, 48, 49, 50, 51, 52, 53, 54, 55, 56, 57, 58, 59, 60, 61, 62, 63, 64, 65, 66, 67, 68, 69, 70, 71, 72, 73, 74, 75] (fun mm f ds W1 => ds = [] ∧ W1 = w5) 0 ⟨rfl, rfl⟩ ?_
  intro c1' T1' hc2 hT2
  rintro mm f ds W1 ⟨rfl, hw1⟩
  replace hc2 := hc2.out
  subst hc2
  replace hT2 := hT2.out
  subst hT2
  generalize hF : mrgF _ 0 _ _ = F
  simp only [mrg_hit, mrg_miss, mrg_end, Nat.reduceBEq, Nat.reduceAdd] at hF
  subst hF
  subst hw1
  go_wp2_with fail
  go_ret3
  exact ⟨⟨A, c, ls, rfl, HL5.out, HMP.out⟩, B5⟩
end Go.Proofs.YtpkepgcmifdpfaaGreatDoor
end
