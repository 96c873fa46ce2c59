/- A bundle of texts: TwA, TwB, TwE. -/
import Derived.Test.YtpkepgcmifdpfaaGreatDoorR21
import Derived.Test.YtpkepgcmifdpfaaGreatDoorR25
section
namespace Go.Proofs.YtpkepgcmifdpfaaGreatDoor
open Go Go.RowKit
set_option maxRecDepth 100000
abbrev wkF (b : Nat) : Value := .func (.func 111) #[] #[.pointer (some ⟨b + 1, 0, none⟩), .pointer (some ⟨b, 0, none⟩)]
structure WkB (w : World) (b s n : Nat) : Prop where
  s : Box w b #[.int .i64 (s : Nat)] 3
  n : Box w (b + 1) #[.int .i64 (n : Nat)] 3
set_option maxHeartbeats 4000000 in
theorem weeks_ok (s n : Nat) (w : World) : Calls Tryz.prog 87 #[.int .i64 (s : Nat), .int .i64 (n : Nat)] w fun e w' => e = .returned (wkF w.heap.size) ∧ Below w.heap.size w w' ∧ WkB w' w.heap.size s n ∧ w'.heap.size = w.heap.size + 2 := by
  obtain ⟨V, HW, x0, x1, hB, hs⟩ := boxes2 w #[.int .i64 (s : Nat)] 3 #[.int .i64 (n : Nat)] 3
  have hmf := hmfT
  go_enter Tryz.func87, Tryz.ntmps87
  go_wp2
  rw [HW.out]
  go_ret
  exact ⟨rfl, hB, ⟨x0, x1⟩, hs⟩
set_option maxHeartbeats 8000000 in
theorem weeks_seq (b s n : Nat) (hn : s + n ≤ 1000000000) :
    SeqP Tryz.prog 111 #[.pointer (some ⟨b + 1, 0, none⟩), .pointer (some ⟨b, 0, none⟩)] (fun x : Nat => #[.int .i64 (x : Nat)]) ((List.range n).map (s + ·)) (fun W => WkB W b s n) := by
  intro l J Jx V hJ hJx hJb hY h0
  refine callsIn_wide.2 ?_
  have c1 := (hJb _ _ h0).n.c1
  have hlen : ((List.range n).map (s + ·)).length = n := by simp
  have HAT : Hid (∀ k (hk : k < ((List.range n).map (s + ·)).length), ((List.range n).map (s + ·))[k] = s + k) := Lib.hid (fun k hk => by simp)
  have HLEN := Lib.hid hlen
  clear hlen
  generalize (List.range n).map (s + ·) = es at *
  go_enter Tryz.func111, Tryz.ntmps111
  go_wp2_with fail
  clear c1
  go_loopw [4, 6] (fun _ i wr => ∃ k : Nat, k ≤ n ∧ i = .int .i64 k ∧ J (es.take k) wr) (fun _ i _ => n - (intOf i).toNat)
  case atStart => exact ⟨0, Nat.zero_le _, rfl, h0⟩
  case round =>
    obtain ⟨k, hk, rfl, hJp⟩ := hrel
    by_cases hlt : k < n
    · have x0 : (0 : Int) ≤ (k : Int) := by omega
      have x1 : (k : Int) < (n : Int) := by omega
      have q0 : decide ((k : Int) < (n : Int)) = true := decide_eq_true x1
      have a0 := (hJb _ _ hJp).s.c1
      have hkl : k < es.length := by rw [HLEN.out]; exact hlt
      have HE2 : Hid (es = es.take k ++ (s + k) :: es.drop (k + 1)) := Lib.hid (by rw [← HAT.out k hkl, List.getElem_cons_drop, List.take_append_drop])
      have HTK : Hid (es.take (k + 1) = es.take k ++ [s + k]) := Lib.hid (by rw [List.take_succ_eq_append_getElem hkl, HAT.out k hkl])
      obtain ⟨fn, tmps, assign, body, hy, hR⟩ := hY (es.take k) (s + k) (es.drop (k + 1)) wr HE2.out hJp
      rw [show ((s + k : Nat) : Int) = (s : Int) + (k : Int) by omega] at hy
      clear hY hJp h0 hkl
      refine (wpIn_wide (n := 9)).1 ?_
      gi_wp2_with fail
      clear a0
      refine hR.mono ?_
      rintro e W3 (⟨rfl, hJ3⟩ | ⟨rfl, hJ3⟩)
      · rw [← HTK.out] at hJ3
        gi_wp2_with fail
        go_roundw
        case rel => exact ⟨k + 1, hlt, by go_num, hJ3⟩
        case measure => simp [intOf]; omega
      · gi_wp2_with fail
        exact bodyPost_ret (results_none rfl _ _ _) rfl ⟨⟨_, rfl⟩, .inr ⟨_, hJ3⟩⟩
    · obtain rfl : k = n := by omega
      have q0 : decide ((k : Int) < (k : Int)) = false := decide_eq_false (by omega)
      have hTL : es.take k = es := List.take_of_length_le (by have := HLEN.out; omega)
      rw [hTL] at hJp
      clear hY h0 hTL
      go_wp2_with fail
      go_end0
      exact ⟨⟨_, rfl⟩, .inl hJp⟩
end Go.Proofs.YtpkepgcmifdpfaaGreatDoor
end

section
namespace Go.Proofs.YtpkepgcmifdpfaaGreatDoor
open Go Go.RowKit Go.Maps
set_option maxRecDepth 100000
theorem own_apart {W : World} {base base' : Nat} {e e' : TypeId} (hne : e ≠ e') {size size' : Nat} {v v' : Value} {n n' : Nat} {xs xs' : List Value} (h : W.ownsRow base e size v n xs) (h' : W.ownsRow base' e' size' v' n' xs') : v.ownBlock = none ∨ v.ownBlock ≠ v'.ownBlock := by
  rcases h.2 with ⟨rfl, _⟩ | ⟨g, cap, cur, rfl, _, hg, _⟩
  · exact .inl rfl
  · refine .inr (fun eq => ?_)
    rcases h'.2 with ⟨rfl, _⟩ | ⟨g', cap', cur', rfl, _, hg', _⟩
    · cases eq
    · obtain rfl : g = g' := Option.some.inj eq
      rw [hg] at hg'
      cases hg'
      exact hne rfl
namespace M
def setP {α : Type} (f : Pl → α) (p : Pl) (x : α) : Pl → α := fun q => if q = p then x else f q
def addR (F : Pl → Nat → Nat) (p : Pl) (s j : Nat) : Pl → Nat → Nat := fun q i => F q i + if q = p ∧ s ≤ i ∧ i < s + j then 1 else 0
theorem addR_zero (F : Pl → Nat → Nat) (p : Pl) (s : Nat) : addR F p s 0 = F := by
  funext q i
  unfold addR
  rw [if_neg (by omega)]
  rfl
theorem addR_succ (F : Pl → Nat → Nat) (p : Pl) (s j : Nat) : setP (addR F p s j) p (bump (addR F p s j p) (s + j)) = addR F p s (j + 1) := by
  funext q i
  unfold setP addR bump
  by_cases e : q = p
  · subst e
    simp only [if_true, true_and]
    split <;> split <;> split <;> omega
  · simp only [if_neg e]
    rw [if_neg (fun h => e h.1), if_neg (fun h => e h.1)]
theorem addR_usd (ws : List (Mv × Nat)) (m : Mv) (s : Nat) : addR (addR (usd ws) (plc m false) s (wkN m)) (plc m true) s (wkN m) = usd (ws ++ [(m, s)]) := by
  funext q i
  rw [usd_snoc]
  unfold addR
  obtain ⟨c, x⟩ := q
  cases c
  · have h1 : ¬ ((false, x) = plc m true) := fun h => by rw [plc_t] at h; cases h
    have h2 : ((false, x) = plc m false) ↔ (plc m (false, x).1 = (false, x)) := eq_comm
    simp only [h1, h2, false_and, if_false, Nat.add_zero]
  · have h1 : ¬ ((true, x) = plc m false) := fun h => by rw [plc_f] at h; cases h
    have h2 : ((true, x) = plc m true) ↔ (plc m (true, x).1 = (true, x)) := eq_comm
    simp only [h1, h2, false_and, if_false, Nat.add_zero]
def PlOk (p : Pl) : Prop := 0 ≤ p.2 ∧ p.2 ≤ 1000000
end M
structure UM (W : World) (base bm nn : Nat) (D : DataW Value) (V : M.Pl → Value) (N : M.Pl → Nat) (F : M.Pl → Nat → Nat) : Prop where
  own : W.ownsMap Tryz.prog 145 rawE bm nn D
  map : IsMap D
  hit : ∀ p, M.PlOk p → D.atKey (plit p) (.held (.slice none 0 0)) = .held (V p)
  row : ∀ p, W.ownsRow base 186 64 (V p) (N p) (flat 64 (rcl (F p)) (List.range (N p)))
  far : ∀ p i, 64 * N p ≤ i → F p i = 0
  len : ∀ p, N p ≤ 1000000
  apart : ∀ p q, p ≠ q → (V p).ownBlock = none ∨ (V p).ownBlock ≠ (V q).ownBlock
theorem UM.start {W : World} {base bm : Nat} (h : W.ownsMap Tryz.prog 145 rawE bm 0 (.map [])) : UM W base bm 0 (.map []) (fun _ => .slice none 0 0) (fun _ => 0) (fun _ _ => 0) :=
  ⟨h, isMap_empty, fun p _ => rfl, fun p => own_nil _ _ _ 64 (rcl _), fun _ _ _ => rfl, fun _ => by omega, fun _ _ _ => .inl rfl⟩
section
variable {W W' : World} {base bm nn : Nat} {D : DataW Value} {V : M.Pl → Value} {N : M.Pl → Nat} {F : M.Pl → Nat → Nat}
theorem UM.kept (h : UM W base bm nn D V N F) {row : Option Nat} (hg : W.grownBy W' row) (hm : some bm ≠ row) (hr : ∀ p, (V p).ownBlock = none ∨ (V p).ownBlock ≠ row) : UM W' base bm nn D V N F :=
  ⟨h.own.kept hg hm, h.map, h.hit, fun p => (h.row p).kept hg (hr p), h.far, h.len, h.apart⟩
theorem UM.next (h : UM W base bm nn D V N F) (hb : Below W.heap.size W W') : UM W' base bm nn D V N F := h.kept (below_grown hb) (by simp) (fun p => by cases e : (V p).ownBlock with
  | none => exact .inl rfl
  | some g => exact .inr (by simp))
theorem UM.own' {row : Option Nat} {B : Nat} (h : UM W base bm nn D V N F) (hB : bm < B) (hg : W.grownBy W' row) (hr : ∀ r, row = some r → B ≤ r ∧ ∃ o : Obj, W.heap[r]? = some o ∧ o.isCells = false) : UM W' base bm nn D V N F :=
  ⟨h.own.kept hg (fun e => by have := (hr _ e.symm).1; omega), h.map, h.hit, fun p => row_own (h.row p) hg hr, h.far, h.len, h.apart⟩
theorem UM.cast {F' : M.Pl → Nat → Nat} (h : UM W base bm nn D V N F) (e : F = F') : UM W base bm nn D V N F' := e ▸ h
theorem UM.put {W2 : World} (h : UM W base bm nn D V N F) (hbm : bm < base) {p : M.Pl} (hp : M.PlOk p) {t n' : Nat} {v' : Value} (hg1 : W.grownBy W' (V p).ownBlock) (hown : W'.ownsRow base 186 64 v' n' (flat 64 (rcl (M.bump (F p) t)) (List.range n'))) (hfar : ∀ i, 64 * n' ≤ i → M.bump (F p) t i = 0) (hn' : n' ≤ 1000000)
    (hloc : ∀ g, v'.ownBlock = some g → (V p).ownBlock = some g ∨ W.heap.size ≤ g) (hmap : W2.ownsMap Tryz.prog 145 rawE bm (nn + 1) (D.put (plit p) (.held v'))) (hg2 : W'.grownBy W2 (some bm)) :
    UM W2 base bm (nn + 1) (D.put (plit p) (.held v')) (M.setP V p v') (M.setP N p n') (M.setP F p (M.bump (F p) t)) := by
  have nb : ∀ {v : Value} {W : World} {m : Nat} {xs : List Value}, W.ownsRow base 186 64 v m xs → v.ownBlock = none ∨ v.ownBlock ≠ some bm := fun {v _ _ _} ho => by
    cases e : v.ownBlock with
    | none => exact .inl rfl
    | some g => exact .inr (fun e2 => by have := (ho.lt g e).1; have := Option.some.inj e2; omega)
  have fresh : ∀ q, q ≠ p → (V q).ownBlock = none ∨ (V q).ownBlock ≠ v'.ownBlock := fun q hq => by
    cases e : (V q).ownBlock with
    | none => exact .inl rfl
    | some g =>
      refine .inr (fun e2 => ?_)
      rcases hloc g e2.symm with h1 | h1
      · rcases h.apart q p hq with h2 | h2
        · rw [e] at h2; cases h2
        · exact h2 (e.trans h1.symm)
      · have := ((h.row q).lt g e).2
        omega
  refine ⟨hmap, h.map.put _ _, fun q hq => ?_, fun q => ?_, fun q i => ?_, fun q => ?_, fun q r hne => ?_⟩
  · unfold M.setP
    by_cases e : q = p
    · subst e
      simp only [if_true]
      exact atKey_put_same h.map (plit_key q) _ _
    · simp only [if_neg e]
      rw [atKey_put_other (fun e2 => e (plit_inj hq hp e2))]
      exact h.hit q hq
  · unfold M.setP
    by_cases e : q = p
    · subst e
      simp only [if_true]
      exact hown.kept hg2 (nb hown)
    · simp only [if_neg e]
      exact ((h.row q).kept hg1 (h.apart q p e)).kept hg2 (nb (h.row q))
  · unfold M.setP
    by_cases e : q = p
    · simp only [if_pos e]; exact hfar i
    · simp only [if_neg e]; exact h.far q i
  · unfold M.setP
    by_cases e : q = p
    · simp only [if_pos e]; exact hn'
    · simp only [if_neg e]; exact h.len q
  · unfold M.setP
    by_cases e : q = p
    · by_cases e' : r = p
      · exact absurd (e.trans e'.symm) hne
      · simp only [if_pos e, if_neg e']
        cases ev : v'.ownBlock with
        | none => exact .inl rfl
        | some g =>
          refine .inr (fun e2 => ?_)
          rcases fresh r e' with h1 | h1
          · rw [h1] at e2; cases e2
          · exact h1 (by rw [← e2, ev])
    · by_cases e' : r = p
      · simp only [if_neg e, if_pos e']
        exact fresh q e
      · simp only [if_neg e, if_neg e']
        exact h.apart q r hne
end
def wcell (x : Mv × Nat) (j : Nat) : Value := match j with
  | 0 => .int .i64 x.1.st
  | 1 => .int .i64 (x.2 : Nat)
  | _ => .int .i64 (x.2 + M.wkN x.1 : Nat)
theorem w_one (x : Mv × Nat) (j : Nat) : (wcell x j).oneCell' = true := by rcases j with _ | _ | j <;> rfl
theorem UM.rec_ {W : World} {base bm nn : Nat} {D : DataW Value} {V : M.Pl → Value} {N : M.Pl → Nat} {F : M.Pl → Nat → Nat} (h : UM W base bm nn D V N F) (p : M.Pl) (hF : ∀ i, F p i ≤ 255) : ∃ A c, V p = .slice A (N p) c ∧ RecS W A (N p) (F p) := by
  obtain ⟨A, c, e, hS⟩ := own_slice (by decide) (h.row p)
  rw [List.length_range] at e
  exact ⟨A, c, e, ⟨hS, h.far p, hF, h.len p⟩⟩
structure WS (w1 W : World) (base bm b10 nn : Nat) (D : DataW Value) (V : M.Pl → Value) (N : M.Pl → Nat) (F : M.Pl → Nat → Nat) (vW : Value) (ws : List (Mv × Nat)) : Prop where
  bel : Below w1.heap.size w1 W
  um : UM W base bm nn D V N F
  x10 : Box W b10 #[.map (some bm)] 143
  ow : W.ownsRow base 127 3 vW ws.length (flat 3 wcell ws)
section
variable {w1 W W' : World} {base bm b10 nn : Nat} {D : DataW Value} {V : M.Pl → Value} {N : M.Pl → Nat} {F : M.Pl → Nat → Nat} {vW : Value} {ws : List (Mv × Nat)}
theorem WS.next (h : WS w1 W base bm b10 nn D V N F vW ws) (hb : Below W.heap.size W W') : WS w1 W' base bm b10 nn D V N F vW ws := ⟨after_ h.bel hb, h.um.next hb, h.x10.below hb, own_below h.ow hb⟩
theorem WS.own' {row : Option Nat} {B : Nat} (h : WS w1 W base bm b10 nn D V N F vW ws) (hB : w1.heap.size ≤ B) (hm : bm < B) (hg : W.grownBy W' row) (hr : ∀ r, row = some r → B ≤ r ∧ ∃ o : Obj, W.heap[r]? = some o ∧ o.isCells = false) : WS w1 W' base bm b10 nn D V N F vW ws :=
  ⟨below_own h.bel hB h.bel.size hg hr, h.um.own' hm hg hr, h.x10.own hg hr, row_own h.ow hg hr⟩
theorem WS.cast {F' : M.Pl → Nat → Nat} (h : WS w1 W base bm b10 nn D V N F vW ws) (e : F = F') : WS w1 W base bm b10 nn D V N F' vW ws := e ▸ h
theorem WS.cast0 {p : M.Pl} {s : Nat} (h : WS w1 W base bm b10 nn D V N F vW ws) : WS w1 W base bm b10 (nn + ([] : List Nat).length) D V N (M.addR F p s ([] : List Nat).length) vW ws := h.cast (M.addR_zero F p s).symm
theorem WS.push {v' : Value} {y : Mv × Nat} (h : WS w1 W base bm b10 nn D V N F vW ws) (hb : w1.heap.size ≤ bm ∧ bm < b10 ∧ b10 < base) (ho : W'.ownsRow base 127 3 v' (ws.length + 1) (flat 3 wcell (ws ++ [y]))) (hg : W.grownBy W' vW.ownBlock) : WS w1 W' base bm b10 nn D V N F v' (ws ++ [y]) := by
  have hfar1 : ∀ b, b < base → some b ≠ vW.ownBlock := fun b hlt e => by have := (h.ow.lt b e.symm).1; omega
  exact ⟨h.bel.grown hg h.bel.size (fun k e => by have := (h.ow.lt k e).1; omega), h.um.kept hg (hfar1 bm (by omega)) (fun p => own_apart (by decide) (h.um.row p) h.ow), h.x10.grown hg (hfar1 _ (by omega)), by rw [List.length_append]; exact ho⟩
theorem WS.put {W2 : World} (h : WS w1 W base bm b10 nn D V N F vW ws) (hb : w1.heap.size ≤ bm ∧ bm < b10 ∧ b10 < base) {p : M.Pl} (hp : M.PlOk p) {t n' : Nat} {v' : Value} (hg1 : W.grownBy W' (V p).ownBlock) (hown : W'.ownsRow base 186 64 v' n' (flat 64 (rcl (M.bump (F p) t)) (List.range n'))) (hfar : ∀ i, 64 * n' ≤ i → M.bump (F p) t i = 0) (hn' : n' ≤ 1000000)
    (hloc : ∀ g, v'.ownBlock = some g → (V p).ownBlock = some g ∨ W.heap.size ≤ g) (hmap : W2.ownsMap Tryz.prog 145 rawE bm (nn + 1) (D.put (plit p) (.held v'))) (hg2 : W'.grownBy W2 (some bm)) :
    WS w1 W2 base bm b10 (nn + 1) (D.put (plit p) (.held v')) (M.setP V p v') (M.setP N p n') (M.setP F p (M.bump (F p) t)) vW ws := by
  have hfar1 : ∀ b, b < base → some b ≠ (V p).ownBlock := fun b hlt e => by have := ((h.um.row p).lt b e.symm).1; omega
  refine ⟨(h.bel.grown hg1 h.bel.size (fun k e => by have := ((h.um.row p).lt k e).1; omega)).grown hg2 (Nat.le_trans h.bel.size hg1.size) (fun k e => by have := Option.some.inj e; omega), h.um.put (by omega) hp hg1 hown hfar hn' hloc hmap hg2, (h.x10.grown hg1 (hfar1 _ (by omega))).grown hg2 (fun e => by have := Option.some.inj e; omega), ?_⟩
  refine (h.ow.kept hg1 (own_apart (by decide) h.ow (h.um.row p))).kept hg2 ?_
  cases e : vW.ownBlock with
  | none => exact .inl rfl
  | some g => exact .inr (fun e2 => by have := (h.ow.lt g e).1; have := Option.some.inj e2; omega)
end
end Go.Proofs.YtpkepgcmifdpfaaGreatDoor
end

section
namespace Go.Proofs.YtpkepgcmifdpfaaGreatDoor
open Go Go.RowKit
set_option maxRecDepth 100000
theorem Sl.wk3 {w : World} {B : Nat} {A : Option Addr} {ws : List (Mv × Nat)} {k : Nat} (h : Sl 3 wcell w B A ws) (hk : k < ws.length) :
    ∃ la, A = some la ∧ (la.add (k * 3)).block < B ∧ w.cell? (la.add (k * 3)) = some (.int .i64 ws[k].1.st) ∧ w.cell? ⟨(la.add (k * 3)).block, (la.add (k * 3)).off + 1, none⟩ = some (.int .i64 (ws[k].2 : Nat)) ∧ w.cell? ⟨(la.add (k * 3)).block, (la.add (k * 3)).off + 2, none⟩ = some (.int .i64 (ws[k].2 + M.wkN ws[k].1 : Nat)) := by
  obtain ⟨ad, e, hb, h0, hj⟩ := h.sp (by decide) hk
  exact ⟨ad, e, hb, h0, hj 1 (by decide) (by decide), hj 2 (by decide) (by decide)⟩
theorem M.wlen_take {ws : List (Mv × Nat)} {k : Nat} (hk : k < ws.length) : M.wlen (ws.take (k + 1)) = max (M.wlen (ws.take k)) (ws[k].2 + M.wkN ws[k].1) := by
  rw [List.take_succ_eq_append_getElem hk, M.wlen_snoc]
set_option maxHeartbeats 8000000 in
theorem towerLength_ok (A : Option Addr) (c : Nat) (ws : List (Mv × Nat)) (w : World) (hS : Sl 3 wcell w w.heap.size A ws) (hl : ws.length ≤ 1000000) :
    Calls Tryz.prog 59 #[.slice A ws.length c] w fun e w' => e = .returned (.int .i64 (M.wlen ws : Nat)) ∧ Below w.heap.size w w' := by
  go_enter Tryz.func59, Tryz.ntmps59
  go_wp2_with fail
  go_loopw [3, 5, 8] (fun v _ i wr => ∃ k : Nat, k ≤ ws.length ∧ i = .int .i64 k ∧ v = .int .i64 (M.wlen (ws.take k) : Nat) ∧ Below w.heap.size w wr) (fun _ _ i _ => ws.length - (intOf i).toNat)
  case atStart => exact ⟨0, Nat.zero_le _, rfl, rfl, Below.refl _ _⟩
  case round =>
    obtain ⟨k, hk, rfl, rfl, hBr⟩ := hrel
    by_cases hlt : k < ws.length
    · obtain ⟨la, hla, hlb, a0, a1, a2⟩ := (hS.below hBr).wk3 hlt
      have l1 := Nat.lt_of_lt_of_le hlb hBr.size
      have x0 : (0 : Int) ≤ (k : Int) := by omega
      have x1 : (k : Int) < (ws.length : Int) := by omega
      have q0 : decide ((k : Int) < (ws.length : Int)) = true := decide_eq_true x1
      have HN := Lib.hid (M.wlen_take hlt)
      generalize hst : ws[k].1.st = st at *
      generalize hs : ws[k].2 = s at *
      generalize hwk : M.wkN ws[k].1 = wk at *
      generalize hv : M.wlen (ws.take k) = v at *
      clear hst hs hwk hv
      generalize hen : s + wk = en at *
      clear hen
      have hmx : (if (v : Int) < (en : Int) then (en : Int) else (v : Int)) = ((max v en : Nat) : Int) := by split <;> omega
      obtain ⟨X, HX, u0, hbX, -⟩ := boxes1 wr #[.int .i64 st, .int .i64 (s : Nat), .int .i64 (en : Nat)] 127
      have BX := after_ hBr hbX
      obtain ⟨u1, u2, u3⟩ := u0.c3
      have hX := HX.out
      subst hla
      go_wp2_with fail
      go_roundw
      case rel => exact ⟨k + 1, hlt, by go_num, by rw [HN.out]; exact congrArg (Value.int .i64) (by omega), BX⟩
      case measure => simp [intOf]; omega
    · obtain rfl : k = ws.length := by omega
      have q0 : decide ((ws.length : Int) < (ws.length : Int)) = false := decide_eq_false (by omega)
      rw [List.take_length]
      go_wp2_with fail
      go_ret
      exact ⟨rfl, hBr⟩
set_option maxHeartbeats 8000000 in
theorem rLength_ok (A : Option Addr) (c : Nat) (ws : List (Mv × Nat)) (w : World) (hS : Sl 3 wcell w w.heap.size A ws) (hl : ws.length ≤ 1000000) :
    Calls Tryz.prog 47 #[.slice A ws.length c] w fun e w' => e = .returned (.int .i64 (M.wlen ws : Nat)) ∧ w = w' := by
  go_enter Tryz.func47, Tryz.ntmps47
  go_wp2_with fail
  go_loop [3, 4] (fun v i => ∃ k : Nat, k ≤ ws.length ∧ i = .int .i64 k ∧ v = .int .i64 (M.wlen (ws.take k) : Nat)) (fun _ i => ws.length - (intOf i).toNat)
  case atStart => exact ⟨0, Nat.zero_le _, rfl, rfl⟩
  case round =>
    obtain ⟨k, hk, rfl, rfl⟩ := hrel
    by_cases hlt : k < ws.length
    · obtain ⟨la, hla, hlb, a0, a1, a2⟩ := hS.wk3 hlt
      have x0 : (0 : Int) ≤ (k : Int) := by omega
      have x1 : (k : Int) < (ws.length : Int) := by omega
      have q0 : decide ((k : Int) < (ws.length : Int)) = true := decide_eq_true x1
      have HN := Lib.hid (M.wlen_take hlt)
      generalize hst : ws[k].1.st = st at *
      generalize hs : ws[k].2 = s at *
      generalize hwk : M.wkN ws[k].1 = wk at *
      generalize hv : M.wlen (ws.take k) = v at *
      clear hst hs hwk hv
      generalize hen : s + wk = en at *
      clear hen
      subst hla
      by_cases hc : (v : Int) < (en : Int)
      · have q1 : decide ((v : Int) < (en : Int)) = true := decide_eq_true hc
        have HN2 : Hid (M.wlen (ws.take (k + 1)) = en) := Lib.hid (by rw [HN.out]; omega)
        have hcn : v < en := by omega
        clear hc
        go_wp2_with fail
        go_round
        case rel => exact ⟨k + 1, hlt, by go_num, by rw [HN2.out]⟩
        case measure => simp [intOf]; omega
      · have q1 : decide ((v : Int) < (en : Int)) = false := decide_eq_false hc
        have HN2 : Hid (M.wlen (ws.take (k + 1)) = v) := Lib.hid (by rw [HN.out]; omega)
        have hcn : ¬ v < en := by omega
        clear hc
        go_wp2_with fail
        go_round
        case rel => exact ⟨k + 1, hlt, by go_num, by rw [HN2.out]⟩
        case measure => simp [intOf]; omega
    · obtain rfl : k = ws.length := by omega
      have q0 : decide ((ws.length : Int) < (ws.length : Int)) = false := decide_eq_false (by omega)
      rw [List.take_length]
      go_wp2_with fail
      go_ret
      exact ⟨rfl, rfl⟩
end Go.Proofs.YtpkepgcmifdpfaaGreatDoor
end
