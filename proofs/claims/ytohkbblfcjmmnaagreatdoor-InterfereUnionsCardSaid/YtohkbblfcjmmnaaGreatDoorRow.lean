/- The law package of layer 15: row. -/
import Derived.Test.YtohkbblfcjmmnaaGreatDoorLaw15
import Derived.Test.YtohkbblfcjmmnaaGreatDoorHeldF
import Derived.Test.YtohkbblfcjmmnaaGreatDoorStep
namespace Go.Proofs.YtohkbblfcjmmnaaGreatDoor
open Go Go.RowKit
set_option maxRecDepth 100000

def M.rG (k : Nat) : List Int := List.replicate k 0
def M.rP (k : Nat) : List Int := List.replicate k 10
theorem M.rG_succ (k : Nat) : M.rG k ++ [0] = M.rG (k + 1) := by unfold M.rG; rw [List.replicate_succ']
theorem M.rP_succ (k : Nat) : M.rP k ++ [10] = M.rP (k + 1) := by unfold M.rP; rw [List.replicate_succ']

theorem wpOp_push {P : Program} {ops : Array Oper} {Q : Exit → Act → World → Prop} {i : Nat} {o : Oper} {K : Act → World → Prop} {a : Act} {W : World} (hi : ops[i]? = some o) (hgd : o.guard = none) (s x : Operand) (t : TypeId) (ho : o.op = .call { callee := .builtin .append, args := #[s, x], argTypes := #[t, t] })
    (base : Nat) (e : TypeId) (it : TypeInfo) (ht : P.underlying t = some (.slice e)) (hit : P.info? e = some it) (hz : it.zero = some (.int .i64 0)) (hsize : it.size = 1) (hby : it.bytes = 8)
    (A : Option Addr) (k c : Nat) (xs : List Int) (y : Int) (bx cx : Nat) (hs : a.eval s = .slice A k c) (hxv : a.eval x = .slice (some ⟨bx, 0, none⟩) 1 cx) (hown : W.ownsRow base e 1 (.slice A k c) k (flat 1 icell xs)) (hx : Box W bx #[.int .i64 y] e) (hk : k ≤ 1000) (hbase : base ≤ W.heap.size)
    (h : ∀ A' c' w', w'.ownsRow base e 1 (.slice A' (k + 1) c') (k + 1) (flat 1 icell (xs ++ [y])) → W.grownBy w' (Value.slice A k c).ownBlock → ((Value.slice A' (k + 1) c').ownBlock = (Value.slice A k c).ownBlock ∨ (Value.slice A' (k + 1) c').ownBlock = some W.heap.size) → K (a.put o.dst (.slice A' (k + 1) c')) w') : wpOp P ops Q i K a W := by
  refine wpOp_one hi hgd ?_
  obtain ⟨v', w', hrun, h2, h3, _, h5⟩ := run_append_own_at (P := P) W base t o.type e it (.int .i64 0) 1 8 ht hit hz hsize hby rfl (by decide) (.slice A k c) k (flat 1 icell xs) hown ⟨bx, 0, none⟩ 1 cx [.int .i64 y] rfl (by
    intro j u hj
    have e1 : (⟨bx, 0, none⟩ : Addr).add j = ⟨bx, j, none⟩ := by unfold Addr.add; split <;> simp_all
    rw [e1]
    match j, hj with
    | 0, hj => rw [hx.c1]; exact hj) (by
    intro u hu
    obtain rfl : u = .int .i64 y := by simpa using hu
    rfl) (by unfold maxLen; omega) (by omega) hbase
  unfold Oper.wp execOp
  simp only [ho, resolve, invoke, builtin, Sem.run_bind, Sem.run_pure, Result.andThen_ok, List.map_toArray, List.map_cons, List.map_nil, hs, hxv, hrun]
  have h2' : w'.ownsRow base e 1 v' (k + 1) (flat 1 icell (xs ++ [y])) := by rw [flat_append, flat_one]; exact h2
  obtain ⟨A', c', rfl, _⟩ := own_slice (by decide) h2'
  have hkl : k = xs.length := by have := hown.1; rw [flat_length] at this; omega
  have hl : (xs ++ [y]).length = k + 1 := by simp; omega
  rw [hl] at h2' h5 ⊢
  exact h A' c' w' h2' h3 h5

theorem apart_sym {G P : Option Nat} (h : G = none ∨ G ≠ P) : P = none ∨ P ≠ G := by
  cases P with
  | none => exact .inl rfl
  | some p =>
    right
    intro e
    rcases h with h | h
    · rw [h] at e; cases e
    · exact h e.symm
theorem apart_push {G P G' P' : Option Nat} {s0 s1 s2 : Nat} (hap : G = none ∨ G ≠ P) (aG : G' = G ∨ G' = some s1) (aP : P' = P ∨ P' = some s2) (hP : ∀ g, P = some g → g < s0) (h01 : s0 ≤ s1) (hG' : ∀ g, G' = some g → g < s2) : G' = none ∨ G' ≠ P' := by
  cases hg : G' with
  | none => exact .inl rfl
  | some g =>
    right
    intro e
    rcases aP with h | h
    · rcases aG with h2 | h2
      · rcases hap with h3 | h3
        · rw [hg, h3] at h2; cases h2
        · exact h3 (by rw [← h2, hg, e, h])
      · rw [hg] at h2
        have := hP g (by rw [← h, ← e])
        have := Option.some.inj h2
        omega
    · rw [h] at e
      have := hG' g hg
      have := Option.some.inj e
      omega
theorem apart_old {G P G' : Option Nat} {s0 s1 : Nat} (hap : G = none ∨ G ≠ P) (aG : G' = G ∨ G' = some s1) (hP : ∀ g, P = some g → g < s0) (h01 : s0 ≤ s1) : G' = none ∨ G' ≠ P := by
  rcases aG with h2 | h2
  · rw [h2]; exact hap
  · right
    intro e
    have := hP s1 (by rw [← e, h2])
    omega

set_option maxHeartbeats 16000000 in
theorem row_ok (w : World) : Calls Tryz.prog 29 #[] w fun e w' => ∃ GA gc PA pc, e = .returned (tv 9 1 GA PA 9 gc 9 pc) ∧ Sl 1 icell w' w'.heap.size GA (M.rG 9) ∧ Sl 1 icell w' w'.heap.size PA (M.rP 9) ∧ Below w.heap.size w w' := by
  obtain ⟨V, HW, x0, x1, hB, hs⟩ := boxes2 w #[.int .i64 0, .int .i64 0, .slice none 0 0, .slice none 0 0] 24 #[.int .i64 9, .int .i64 1, .slice none 0 0, .slice none 0 0] 24
  obtain ⟨i0, hi, hz0, hz1, hz2⟩ := info_parts intInfo
  have Hi := Lib.hid hi; have Hz0 := Lib.hid hz0; have Hz1 := Lib.hid hz1; have Hz2 := Lib.hid hz2
  have HS := Lib.hid hs
  clear hi hz0 hz1 hz2 hs
  go_enter Tryz.func29, Tryz.ntmps29
  go_wp2_with fail
  rw [HW.out]
  go_loopw [2] (fun i wr => ∃ (k : Nat) (AG AP : Option Addr) (cG cP : Nat), k ≤ 9 ∧ i = .int .i64 k ∧ Below w.heap.size w wr ∧ Box wr w.heap.size #[.int .i64 0, .int .i64 0, .slice none 0 0, .slice none 0 0] 24 ∧ Box wr (w.heap.size + 1) #[.int .i64 9, .int .i64 1, .slice AG k cG, .slice AP k cP] 24 ∧ wr.ownsRow (w.heap.size + 2) 3 1 (.slice AG k cG) k (flat 1 icell (M.rG k)) ∧ wr.ownsRow (w.heap.size + 2) 3 1 (.slice AP k cP) k (flat 1 icell (M.rP k)) ∧ ((Value.slice AG k cG).ownBlock = none ∨ (Value.slice AG k cG).ownBlock ≠ (Value.slice AP k cP).ownBlock)) (fun i _ => 9 - (intOf i).toNat)
  case atStart => exact ⟨0, none, none, 0, 0, by omega, rfl, hB, x0, x1, own_nil _ _ _ _ _, own_nil _ _ _ _ _, .inl rfl⟩
  case round =>
    clear x0 x1
    obtain ⟨k, AG, AP, cG, cP, hk, rfl, hBr, x0, x1, oG, oP, hap⟩ := hrel
    by_cases hlt : k < 9
    · go_wp2_with fail
      refine wp_region_any (by kernel_rfl) ?_
      refine wpAny_of_L (S := fun ls w' => (ls.getD 3 true = false → w'.cell? ⟨w.heap.size + 1, 2, none⟩ = some (.slice AG k cG)) ∧ (ls.getD 7 true = false → w'.cell? ⟨w.heap.size + 1, 3, none⟩ = some (.slice AP k cP))) _ _ _ _ ?_
      change wpAnyL Tryz.prog _ _ _ _ _ _ _ wr.drew
      have y0 : Box wr.drew w.heap.size #[.int .i64 0, .int .i64 0, .slice none 0 0, .slice none 0 0] 24 := x0
      have y1 : Box wr.drew (w.heap.size + 1) #[.int .i64 9, .int .i64 1, .slice AG k cG, .slice AP k cP] 24 := x1
      have D0 := y1.c4.2.2.1
      have D1 := y1.c4.2.2.2
      have oG0 := oG.drew
      have oP0 := oP.drew
      have hBd := hBr.drew
      clear x0 x1 oG oP hBr
      generalize wr.drew = W0 at *
      have hsz : w.heap.size + 2 ≤ W0.heap.size := by have := y1.lt; omega
      refine wpAnyL_take (i := 0) (q := 1) (v := .pointer (some ⟨w.heap.size + 1, 2, none⟩)) (fun w' => True) rfl (by kernel_rfl) (by kernel_rfl) (by kernel_rfl) (fun c a w h => h) rfl (by kernel_rfl) (by decide) (fun ls w => by simp) (fun ls w h1 h2 => trivial) rfl rfl (fun w h => by simp [execOp, go_sem]) ⟨fun _ => D0, fun _ => D1⟩ ?_
      refine wpAnyL_take (i := 1) (q := 3) (v := .slice AG k cG) (fun w' => w'.cell? ⟨w.heap.size + 1, 2, none⟩ = some (.slice AG k cG)) rfl (by kernel_rfl) (by kernel_rfl) (by kernel_rfl) (fun c a w h => h) rfl (by kernel_rfl) (by decide) (fun ls w => by simp) (fun ls w h1 h2 => h2.1 h1) rfl rfl (fun w h => by simp [execOp, go_sem, h]) ⟨fun _ => D0, fun _ => D1⟩ ?_
      refine wpAnyL_take (i := 4) (q := 5) (v := .pointer (some ⟨w.heap.size + 1, 3, none⟩)) (fun w' => True) rfl (by kernel_rfl) (by kernel_rfl) (by kernel_rfl) (fun c a w h => h) rfl (by kernel_rfl) (by decide) (fun ls w => by simp) (fun ls w h1 h2 => trivial) rfl rfl (fun w h => by simp [execOp, go_sem]) ⟨fun _ => D0, fun _ => D1⟩ ?_
      refine wpAnyL_take (i := 5) (q := 7) (v := .slice AP k cP) (fun w' => w'.cell? ⟨w.heap.size + 1, 3, none⟩ = some (.slice AP k cP)) rfl (by kernel_rfl) (by kernel_rfl) (by kernel_rfl) (fun c a w h => h) rfl (by kernel_rfl) (by decide) (fun ls w => by simp) (fun ls w h1 h2 => h2.2 h1) rfl rfl (fun w h => by simp [execOp, go_sem, h]) ⟨fun _ => D0, fun _ => D1⟩ ?_
      refine wpAnyL_all (rs := [2, 6]) (by kernel_rfl) (by simp) (fun i hi => ?_)
      rcases List.mem_cons.1 hi with rfl | hi
      · obtain ⟨U1, HU1⟩ : ∃ U, Hid (W0.alloc (.cells #[.int .i64 0] 3) = U) := ⟨_, Lib.hid rfl⟩
        have bU1 : Below W0.heap.size W0 U1 := by rw [← HU1.out]; exact (Below.refl _ _).alloc (Nat.le_refl _) _
        have sU1 : U1.heap.size = W0.heap.size + 1 := by rw [← HU1.out]; simp
        have eU1 : Box U1 W0.heap.size #[.int .i64 0] 3 := by rw [← HU1.out]; exact Box.new _ _ _
        have y0a := y0.below bU1
        have y1a := y1.below bU1
        refine wpOp_ran (v := .slice (some ⟨W0.heap.size, 0, none⟩) 1 1) (w' := U1) rfl rfl (by rw [← HU1.out]; simp [execOp, go_sem]) ⟨⟨fun _ => y1a.c4.2.2.1, fun _ => y1a.c4.2.2.2⟩, ?_⟩
        refine wpAnyL_all (rs := [3, 6]) (by kernel_rfl) (by simp) (fun i hi => ?_)
        rcases List.mem_cons.1 hi with rfl | hi
        · have oG1 := own_below oG0 bU1
          have oP1 := own_below oP0 bU1
          refine wpOp_push rfl rfl (.tmp 9) (.tmp 10) 22 rfl (w.heap.size + 2) 3 i0 Tryz.underlying22 Hi.out Hz0.out Hz1.out Hz2.out AG k cG (M.rG k) 0 W0.heap.size 1 (by simp [Act.eval, Act.put]) (by simp [Act.eval, Act.put]) oG1 eU1 (by omega) (by omega) ?_
          intro AG' cG' w3 ownG grG atG
          have y0b : Box w3 w.heap.size #[.int .i64 0, .int .i64 0, .slice none 0 0, .slice none 0 0] 24 := (grG.block _ (by have := y0a.lt; omega) (fun e => by have := (oG1.lt _ e.symm).1; omega)).trans y0a
          have y1b : Box w3 (w.heap.size + 1) #[.int .i64 9, .int .i64 1, .slice AG k cG, .slice AP k cP] 24 := (grG.block _ (by have := y1a.lt; omega) (fun e => by have := (oG1.lt _ e.symm).1; omega)).trans y1a
          have hz3 := grG.size
          have oP3 := oP1.kept grG (apart_sym hap)
          refine ⟨⟨fun h => absurd h (by simp), fun _ => y1b.c4.2.2.2⟩, ?_⟩
          refine wpAnyL_take (i := 8) (q := 9) (v := .pointer (some ⟨w.heap.size + 1, 2, none⟩)) (fun w' => True) rfl (by kernel_rfl) (by kernel_rfl) (by kernel_rfl) (fun c a w h => h) rfl (by kernel_rfl) (by decide) (fun ls w => by simp) (fun ls w h1 h2 => trivial) rfl rfl (fun w h => by simp [execOp, go_sem]) ⟨fun h => absurd h (by simp), fun _ => y1b.c4.2.2.2⟩ ?_
          refine wpAnyL_all (rs := [6]) (by kernel_rfl) (by simp) (fun i hi => ?_)
          obtain rfl : i = 6 := by simpa using hi
          obtain ⟨U2, HU2⟩ : ∃ U, Hid (w3.alloc (.cells #[.int .i64 10] 3) = U) := ⟨_, Lib.hid rfl⟩
          have bU2 : Below w3.heap.size w3 U2 := by rw [← HU2.out]; exact (Below.refl _ _).alloc (Nat.le_refl _) _
          have sU2 : U2.heap.size = w3.heap.size + 1 := by rw [← HU2.out]; simp
          have eU2 : Box U2 w3.heap.size #[.int .i64 10] 3 := by rw [← HU2.out]; exact Box.new _ _ _
          have y0c := y0b.below bU2
          have y1c := y1b.below bU2
          refine wpOp_ran (v := .slice (some ⟨w3.heap.size, 0, none⟩) 1 1) (w' := U2) rfl rfl (by rw [← HU2.out]; simp [execOp, go_sem]) ⟨⟨fun h => absurd h (by simp), fun _ => y1c.c4.2.2.2⟩, ?_⟩
          refine wpAnyL_all (rs := [7]) (by kernel_rfl) (by simp) (fun i hi => ?_)
          obtain rfl : i = 7 := by simpa using hi
          have oP4 := own_below oP3 bU2
          have oG4 := own_below ownG bU2
          refine wpOp_push rfl rfl (.tmp 13) (.tmp 14) 22 rfl (w.heap.size + 2) 3 i0 Tryz.underlying22 Hi.out Hz0.out Hz1.out Hz2.out AP k cP (M.rP k) 10 w3.heap.size 1 (by simp [Act.eval, Act.put]) (by simp [Act.eval, Act.put]) oP4 eU2 (by omega) (by omega) ?_
          intro AP' cP' w7 ownP grP atP
          have z0 : Box w7 w.heap.size #[.int .i64 0, .int .i64 0, .slice none 0 0, .slice none 0 0] 24 := (grP.block _ (by have := y0c.lt; omega) (fun e => by have := (oP4.lt _ e.symm).1; omega)).trans y0c
          have z1 : Box w7 (w.heap.size + 1) #[.int .i64 9, .int .i64 1, .slice AG k cG, .slice AP k cP] 24 := (grP.block _ (by have := y1c.lt; omega) (fun e => by have := (oP4.lt _ e.symm).1; omega)).trans y1c
          have aF := apart_push hap atG atP (fun g h => (oP0.lt g h).2) (by omega) (fun g h => (oG4.lt g h).2)
          have gF := oG4.kept grP (apart_old hap atG (fun g h => (oP0.lt g h).2) (by omega))
          have pF := ownP
          have bF : Below w.heap.size w w7 := ((((hBd.trans (bU1.mono (by omega))).grown grG (by omega) (fun g h => by have := (oG1.lt g h).1; omega)).trans (bU2.mono (by omega))).grown grP (by omega) (fun g h => by have := (oP4.lt g h).1; omega))
          refine ⟨⟨fun h => absurd h (by simp), fun h => absurd h (by simp)⟩, ?_⟩
          have f2 := z1.frozen 2
          have f3 := z1.frozen 3
          obtain ⟨v0, v1, v2, v3⟩ := z1.c4
          have g3 := (z1.set 2 (.slice AG' (k + 1) cG')).frozen 3
          have u3 := (z1.set 2 (.slice AG' (k + 1) cG')).c4.2.2.2
          refine wpAnyL_all (rs := [9]) (by kernel_rfl) (by simp) (fun i hi => ?_)
          obtain rfl : i = 9 := by simpa using hi
          refine wpOp_one rfl rfl ?_
          simp only [Act.put]
          go_step
          refine wpAnyL_take (i := 10) (q := 11) (v := .pointer (some ⟨w.heap.size + 1, 3, none⟩)) (fun w' => True) rfl (by kernel_rfl) (by kernel_rfl) (by kernel_rfl) (fun c a w h => h) rfl (by kernel_rfl) (by decide) (fun ls w => by simp) (fun ls w h1 h2 => trivial) rfl rfl (fun w h => by simp [execOp, go_sem]) ⟨fun h => absurd h (by simp), fun h => absurd h (by simp)⟩ ?_
          refine wpAnyL_all (rs := [11]) (by kernel_rfl) (by simp) (fun i hi => ?_)
          obtain rfl : i = 11 := by simpa using hi
          refine wpOp_one rfl rfl ?_
          simp only [Act.put]
          go_step
          refine wpAnyL_done (by kernel_rfl) ?_ _
          have hne : w.heap.size ≠ w.heap.size + 1 := by omega
          have z0' := (z0.set_other (p := ⟨w.heap.size + 1, 2, none⟩) hne (.slice AG' (k + 1) cG')).set_other (p := ⟨w.heap.size + 1, 3, none⟩) hne (.slice AP' (k + 1) cP')
          have z1' := (z1.set 2 (.slice AG' (k + 1) cG')).set 3 (.slice AP' (k + 1) cP')
          have gF' := ownsRow_setCell_below (ownsRow_setCell_below gF (a := ⟨w.heap.size + 1, 2, none⟩) (by dsimp only; omega) (.slice AG' (k + 1) cG')) (a := ⟨w.heap.size + 1, 3, none⟩) (by dsimp only; omega) (.slice AP' (k + 1) cP')
          have pF' := ownsRow_setCell_below (ownsRow_setCell_below pF (a := ⟨w.heap.size + 1, 2, none⟩) (by dsimp only; omega) (.slice AG' (k + 1) cG')) (a := ⟨w.heap.size + 1, 3, none⟩) (by dsimp only; omega) (.slice AP' (k + 1) cP')
          have bF' := (bF.setCell (p := ⟨w.heap.size + 1, 2, none⟩) (by dsimp only; omega) (.slice AG' (k + 1) cG')).setCell (p := ⟨w.heap.size + 1, 3, none⟩) (by dsimp only; omega) (.slice AP' (k + 1) cP')
          generalize (w7.setCell ⟨w.heap.size + 1, 2, none⟩ (.slice AG' (k + 1) cG')).setCell ⟨w.heap.size + 1, 3, none⟩ (.slice AP' (k + 1) cP') = w9 at *
          rw [M.rG_succ] at gF'
          rw [M.rP_succ] at pF'
          go_wp2_with fail
          go_roundw
          case rel => exact ⟨k + 1, AG', AP', cG', cP', hlt, by go_num, bF', z0', z1', gF', pF', aF⟩
          case measure => simp [intOf]; omega
        · obtain rfl : i = 6 := by simpa using hi
          obtain ⟨U2, HU2⟩ : ∃ U, Hid (U1.alloc (.cells #[.int .i64 10] 3) = U) := ⟨_, Lib.hid rfl⟩
          have bU2 : Below U1.heap.size U1 U2 := by rw [← HU2.out]; exact (Below.refl _ _).alloc (Nat.le_refl _) _
          have sU2 : U2.heap.size = U1.heap.size + 1 := by rw [← HU2.out]; simp
          have eU2 : Box U2 U1.heap.size #[.int .i64 10] 3 := by rw [← HU2.out]; exact Box.new _ _ _
          have y0c := y0a.below bU2
          have y1c := y1a.below bU2
          refine wpOp_ran (v := .slice (some ⟨U1.heap.size, 0, none⟩) 1 1) (w' := U2) rfl rfl (by rw [← HU2.out]; simp [execOp, go_sem]) ⟨⟨fun _ => y1c.c4.2.2.1, fun _ => y1c.c4.2.2.2⟩, ?_⟩
          refine wpAnyL_all (rs := [3]) (by kernel_rfl) (by simp) (fun i hi => ?_)
          obtain rfl : i = 3 := by simpa using hi
          have oG1 := own_below (own_below oG0 bU1) bU2
          have oP1 := own_below (own_below oP0 bU1) bU2
          have e0 := eU1.below bU2
          have e10 := eU2
          refine wpOp_push rfl rfl (.tmp 9) (.tmp 10) 22 rfl (w.heap.size + 2) 3 i0 Tryz.underlying22 Hi.out Hz0.out Hz1.out Hz2.out AG k cG (M.rG k) 0 _ 1 (by simp [Act.eval, Act.put]) (by simp [Act.eval, Act.put]) oG1 e0 (by omega) (by omega) ?_
          intro AG' cG' w3 ownG grG atG
          have y0d : Box w3 w.heap.size #[.int .i64 0, .int .i64 0, .slice none 0 0, .slice none 0 0] 24 := (grG.block _ (by have := y0c.lt; omega) (fun e => by have := (oG1.lt _ e.symm).1; omega)).trans y0c
          have y1d : Box w3 (w.heap.size + 1) #[.int .i64 9, .int .i64 1, .slice AG k cG, .slice AP k cP] 24 := (grG.block _ (by have := y1c.lt; omega) (fun e => by have := (oG1.lt _ e.symm).1; omega)).trans y1c
          have hz3 := grG.size
          have oP3 := oP1.kept grG (apart_sym hap)
          have e10' := (grG.block _ (by have := e10.lt; omega) (fun e => by have := (oG0.lt _ e.symm).2; omega)).trans e10
          refine ⟨⟨fun h => absurd h (by simp), fun _ => y1d.c4.2.2.2⟩, ?_⟩
          refine wpAnyL_take (i := 8) (q := 9) (v := .pointer (some ⟨w.heap.size + 1, 2, none⟩)) (fun w' => True) rfl (by kernel_rfl) (by kernel_rfl) (by kernel_rfl) (fun c a w h => h) rfl (by kernel_rfl) (by decide) (fun ls w => by simp) (fun ls w h1 h2 => trivial) rfl rfl (fun w h => by simp [execOp, go_sem]) ⟨fun h => absurd h (by simp), fun _ => y1d.c4.2.2.2⟩ ?_
          refine wpAnyL_all (rs := [7]) (by kernel_rfl) (by simp) (fun i hi => ?_)
          obtain rfl : i = 7 := by simpa using hi
          refine wpOp_push rfl rfl (.tmp 13) (.tmp 14) 22 rfl (w.heap.size + 2) 3 i0 Tryz.underlying22 Hi.out Hz0.out Hz1.out Hz2.out AP k cP (M.rP k) 10 _ 1 (by simp [Act.eval, Act.put]) (by simp [Act.eval, Act.put]) oP3 e10' (by omega) (by omega) ?_
          intro AP' cP' w7 ownP grP atP
          have z0 : Box w7 w.heap.size #[.int .i64 0, .int .i64 0, .slice none 0 0, .slice none 0 0] 24 := (grP.block _ (by have := y0d.lt; omega) (fun e => by have := (oP3.lt _ e.symm).1; omega)).trans y0d
          have z1 : Box w7 (w.heap.size + 1) #[.int .i64 9, .int .i64 1, .slice AG k cG, .slice AP k cP] 24 := (grP.block _ (by have := y1d.lt; omega) (fun e => by have := (oP3.lt _ e.symm).1; omega)).trans y1d
          have aF := apart_push hap atG atP (fun g h => (oP0.lt g h).2) (by omega) (fun g h => (ownG.lt g h).2)
          have gF := ownG.kept grP (apart_old hap atG (fun g h => (oP0.lt g h).2) (by omega))
          have pF := ownP
          have bF : Below w.heap.size w w7 := ((((hBd.trans (bU1.mono (by omega))).trans (bU2.mono (by omega))).grown grG (by omega) (fun g h => by have := (oG1.lt g h).1; omega)).grown grP (by omega) (fun g h => by have := (oP3.lt g h).1; omega))
          refine ⟨⟨fun h => absurd h (by simp), fun h => absurd h (by simp)⟩, ?_⟩
          have f2 := z1.frozen 2
          have f3 := z1.frozen 3
          obtain ⟨v0, v1, v2, v3⟩ := z1.c4
          have g3 := (z1.set 2 (.slice AG' (k + 1) cG')).frozen 3
          have u3 := (z1.set 2 (.slice AG' (k + 1) cG')).c4.2.2.2
          refine wpAnyL_all (rs := [9]) (by kernel_rfl) (by simp) (fun i hi => ?_)
          obtain rfl : i = 9 := by simpa using hi
          refine wpOp_one rfl rfl ?_
          simp only [Act.put]
          go_step
          refine wpAnyL_take (i := 10) (q := 11) (v := .pointer (some ⟨w.heap.size + 1, 3, none⟩)) (fun w' => True) rfl (by kernel_rfl) (by kernel_rfl) (by kernel_rfl) (fun c a w h => h) rfl (by kernel_rfl) (by decide) (fun ls w => by simp) (fun ls w h1 h2 => trivial) rfl rfl (fun w h => by simp [execOp, go_sem]) ⟨fun h => absurd h (by simp), fun h => absurd h (by simp)⟩ ?_
          refine wpAnyL_all (rs := [11]) (by kernel_rfl) (by simp) (fun i hi => ?_)
          obtain rfl : i = 11 := by simpa using hi
          refine wpOp_one rfl rfl ?_
          simp only [Act.put]
          go_step
          refine wpAnyL_done (by kernel_rfl) ?_ _
          have hne : w.heap.size ≠ w.heap.size + 1 := by omega
          have z0' := (z0.set_other (p := ⟨w.heap.size + 1, 2, none⟩) hne (.slice AG' (k + 1) cG')).set_other (p := ⟨w.heap.size + 1, 3, none⟩) hne (.slice AP' (k + 1) cP')
          have z1' := (z1.set 2 (.slice AG' (k + 1) cG')).set 3 (.slice AP' (k + 1) cP')
          have gF' := ownsRow_setCell_below (ownsRow_setCell_below gF (a := ⟨w.heap.size + 1, 2, none⟩) (by dsimp only; omega) (.slice AG' (k + 1) cG')) (a := ⟨w.heap.size + 1, 3, none⟩) (by dsimp only; omega) (.slice AP' (k + 1) cP')
          have pF' := ownsRow_setCell_below (ownsRow_setCell_below pF (a := ⟨w.heap.size + 1, 2, none⟩) (by dsimp only; omega) (.slice AG' (k + 1) cG')) (a := ⟨w.heap.size + 1, 3, none⟩) (by dsimp only; omega) (.slice AP' (k + 1) cP')
          have bF' := (bF.setCell (p := ⟨w.heap.size + 1, 2, none⟩) (by dsimp only; omega) (.slice AG' (k + 1) cG')).setCell (p := ⟨w.heap.size + 1, 3, none⟩) (by dsimp only; omega) (.slice AP' (k + 1) cP')
          generalize (w7.setCell ⟨w.heap.size + 1, 2, none⟩ (.slice AG' (k + 1) cG')).setCell ⟨w.heap.size + 1, 3, none⟩ (.slice AP' (k + 1) cP') = w9 at *
          rw [M.rG_succ] at gF'
          rw [M.rP_succ] at pF'
          go_wp2_with fail
          go_roundw
          case rel => exact ⟨k + 1, AG', AP', cG', cP', hlt, by go_num, bF', z0', z1', gF', pF', aF⟩
          case measure => simp [intOf]; omega
      · obtain rfl : i = 6 := by simpa using hi
        obtain ⟨U1, HU1⟩ : ∃ U, Hid (W0.alloc (.cells #[.int .i64 10] 3) = U) := ⟨_, Lib.hid rfl⟩
        have bU1 : Below W0.heap.size W0 U1 := by rw [← HU1.out]; exact (Below.refl _ _).alloc (Nat.le_refl _) _
        have sU1 : U1.heap.size = W0.heap.size + 1 := by rw [← HU1.out]; simp
        have eU1 : Box U1 W0.heap.size #[.int .i64 10] 3 := by rw [← HU1.out]; exact Box.new _ _ _
        have y0a := y0.below bU1
        have y1a := y1.below bU1
        refine wpOp_ran (v := .slice (some ⟨W0.heap.size, 0, none⟩) 1 1) (w' := U1) rfl rfl (by rw [← HU1.out]; simp [execOp, go_sem]) ⟨⟨fun _ => y1a.c4.2.2.1, fun _ => y1a.c4.2.2.2⟩, ?_⟩
        refine wpAnyL_all (rs := [2]) (by kernel_rfl) (by simp) (fun i hi => ?_)
        obtain rfl : i = 2 := by simpa using hi
        obtain ⟨U2, HU2⟩ : ∃ U, Hid (U1.alloc (.cells #[.int .i64 0] 3) = U) := ⟨_, Lib.hid rfl⟩
        have bU2 : Below U1.heap.size U1 U2 := by rw [← HU2.out]; exact (Below.refl _ _).alloc (Nat.le_refl _) _
        have sU2 : U2.heap.size = U1.heap.size + 1 := by rw [← HU2.out]; simp
        have eU2 : Box U2 U1.heap.size #[.int .i64 0] 3 := by rw [← HU2.out]; exact Box.new _ _ _
        have y0c := y0a.below bU2
        have y1c := y1a.below bU2
        refine wpOp_ran (v := .slice (some ⟨U1.heap.size, 0, none⟩) 1 1) (w' := U2) rfl rfl (by rw [← HU2.out]; simp [execOp, go_sem]) ⟨⟨fun _ => y1c.c4.2.2.1, fun _ => y1c.c4.2.2.2⟩, ?_⟩
        refine wpAnyL_all (rs := [3]) (by kernel_rfl) (by simp) (fun i hi => ?_)
        obtain rfl : i = 3 := by simpa using hi
        have oG1 := own_below (own_below oG0 bU1) bU2
        have oP1 := own_below (own_below oP0 bU1) bU2
        have e0 := eU2
        have e10 := eU1.below bU2
        refine wpOp_push rfl rfl (.tmp 9) (.tmp 10) 22 rfl (w.heap.size + 2) 3 i0 Tryz.underlying22 Hi.out Hz0.out Hz1.out Hz2.out AG k cG (M.rG k) 0 _ 1 (by simp [Act.eval, Act.put]) (by simp [Act.eval, Act.put]) oG1 e0 (by omega) (by omega) ?_
        intro AG' cG' w3 ownG grG atG
        have y0d : Box w3 w.heap.size #[.int .i64 0, .int .i64 0, .slice none 0 0, .slice none 0 0] 24 := (grG.block _ (by have := y0c.lt; omega) (fun e => by have := (oG1.lt _ e.symm).1; omega)).trans y0c
        have y1d : Box w3 (w.heap.size + 1) #[.int .i64 9, .int .i64 1, .slice AG k cG, .slice AP k cP] 24 := (grG.block _ (by have := y1c.lt; omega) (fun e => by have := (oG1.lt _ e.symm).1; omega)).trans y1c
        have hz3 := grG.size
        have oP3 := oP1.kept grG (apart_sym hap)
        have e10' := (grG.block _ (by have := e10.lt; omega) (fun e => by have := (oG0.lt _ e.symm).2; omega)).trans e10
        refine ⟨⟨fun h => absurd h (by simp), fun _ => y1d.c4.2.2.2⟩, ?_⟩
        refine wpAnyL_take (i := 8) (q := 9) (v := .pointer (some ⟨w.heap.size + 1, 2, none⟩)) (fun w' => True) rfl (by kernel_rfl) (by kernel_rfl) (by kernel_rfl) (fun c a w h => h) rfl (by kernel_rfl) (by decide) (fun ls w => by simp) (fun ls w h1 h2 => trivial) rfl rfl (fun w h => by simp [execOp, go_sem]) ⟨fun h => absurd h (by simp), fun _ => y1d.c4.2.2.2⟩ ?_
        refine wpAnyL_all (rs := [7]) (by kernel_rfl) (by simp) (fun i hi => ?_)
        obtain rfl : i = 7 := by simpa using hi
        refine wpOp_push rfl rfl (.tmp 13) (.tmp 14) 22 rfl (w.heap.size + 2) 3 i0 Tryz.underlying22 Hi.out Hz0.out Hz1.out Hz2.out AP k cP (M.rP k) 10 _ 1 (by simp [Act.eval, Act.put]) (by simp [Act.eval, Act.put]) oP3 e10' (by omega) (by omega) ?_
        intro AP' cP' w7 ownP grP atP
        have z0 : Box w7 w.heap.size #[.int .i64 0, .int .i64 0, .slice none 0 0, .slice none 0 0] 24 := (grP.block _ (by have := y0d.lt; omega) (fun e => by have := (oP3.lt _ e.symm).1; omega)).trans y0d
        have z1 : Box w7 (w.heap.size + 1) #[.int .i64 9, .int .i64 1, .slice AG k cG, .slice AP k cP] 24 := (grP.block _ (by have := y1d.lt; omega) (fun e => by have := (oP3.lt _ e.symm).1; omega)).trans y1d
        have aF := apart_push hap atG atP (fun g h => (oP0.lt g h).2) (by omega) (fun g h => (ownG.lt g h).2)
        have gF := ownG.kept grP (apart_old hap atG (fun g h => (oP0.lt g h).2) (by omega))
        have pF := ownP
        have bF : Below w.heap.size w w7 := ((((hBd.trans (bU1.mono (by omega))).trans (bU2.mono (by omega))).grown grG (by omega) (fun g h => by have := (oG1.lt g h).1; omega)).grown grP (by omega) (fun g h => by have := (oP3.lt g h).1; omega))
        refine ⟨⟨fun h => absurd h (by simp), fun h => absurd h (by simp)⟩, ?_⟩
        have f2 := z1.frozen 2
        have f3 := z1.frozen 3
        obtain ⟨v0, v1, v2, v3⟩ := z1.c4
        have g3 := (z1.set 2 (.slice AG' (k + 1) cG')).frozen 3
        have u3 := (z1.set 2 (.slice AG' (k + 1) cG')).c4.2.2.2
        refine wpAnyL_all (rs := [9]) (by kernel_rfl) (by simp) (fun i hi => ?_)
        obtain rfl : i = 9 := by simpa using hi
        refine wpOp_one rfl rfl ?_
        simp only [Act.put]
        go_step
        refine wpAnyL_take (i := 10) (q := 11) (v := .pointer (some ⟨w.heap.size + 1, 3, none⟩)) (fun w' => True) rfl (by kernel_rfl) (by kernel_rfl) (by kernel_rfl) (fun c a w h => h) rfl (by kernel_rfl) (by decide) (fun ls w => by simp) (fun ls w h1 h2 => trivial) rfl rfl (fun w h => by simp [execOp, go_sem]) ⟨fun h => absurd h (by simp), fun h => absurd h (by simp)⟩ ?_
        refine wpAnyL_all (rs := [11]) (by kernel_rfl) (by simp) (fun i hi => ?_)
        obtain rfl : i = 11 := by simpa using hi
        refine wpOp_one rfl rfl ?_
        simp only [Act.put]
        go_step
        refine wpAnyL_done (by kernel_rfl) ?_ _
        have hne : w.heap.size ≠ w.heap.size + 1 := by omega
        have z0' := (z0.set_other (p := ⟨w.heap.size + 1, 2, none⟩) hne (.slice AG' (k + 1) cG')).set_other (p := ⟨w.heap.size + 1, 3, none⟩) hne (.slice AP' (k + 1) cP')
        have z1' := (z1.set 2 (.slice AG' (k + 1) cG')).set 3 (.slice AP' (k + 1) cP')
        have gF' := ownsRow_setCell_below (ownsRow_setCell_below gF (a := ⟨w.heap.size + 1, 2, none⟩) (by dsimp only; omega) (.slice AG' (k + 1) cG')) (a := ⟨w.heap.size + 1, 3, none⟩) (by dsimp only; omega) (.slice AP' (k + 1) cP')
        have pF' := ownsRow_setCell_below (ownsRow_setCell_below pF (a := ⟨w.heap.size + 1, 2, none⟩) (by dsimp only; omega) (.slice AG' (k + 1) cG')) (a := ⟨w.heap.size + 1, 3, none⟩) (by dsimp only; omega) (.slice AP' (k + 1) cP')
        have bF' := (bF.setCell (p := ⟨w.heap.size + 1, 2, none⟩) (by dsimp only; omega) (.slice AG' (k + 1) cG')).setCell (p := ⟨w.heap.size + 1, 3, none⟩) (by dsimp only; omega) (.slice AP' (k + 1) cP')
        generalize (w7.setCell ⟨w.heap.size + 1, 2, none⟩ (.slice AG' (k + 1) cG')).setCell ⟨w.heap.size + 1, 3, none⟩ (.slice AP' (k + 1) cP') = w9 at *
        rw [M.rG_succ] at gF'
        rw [M.rP_succ] at pF'
        go_wp2_with fail
        go_roundw
        case rel => exact ⟨k + 1, AG', AP', cG', cP', hlt, by go_num, bF', z0', z1', gF', pF', aF⟩
        case measure => simp [intOf]; omega
    · obtain rfl : k = 9 := by omega
      obtain ⟨c0, c1, c2, c3⟩ := x1.c4
      obtain ⟨d0, d1, d2, d3⟩ := x0.c4
      have f0 := x0.frozen 0
      have f1 := x0.frozen 1
      have f2 := x0.frozen 2
      have f3 := x0.frozen 3
      clear hlt
      have z := (((x0.set 0 (.int .i64 9)).set 1 (.int .i64 1)).set 2 (.slice AG 9 cG)).set 3 (.slice AP 9 cP)
      obtain ⟨z0, z1, z2, z3⟩ := z.c4
      have hsz : w.heap.size + 2 ≤ wr.heap.size := by have := x1.lt; omega
      have sG := Sl.of_own (by decide) (ownsRow_setCell_below (ownsRow_setCell_below (ownsRow_setCell_below (ownsRow_setCell_below oG (a := ⟨w.heap.size, 0, none⟩) (by dsimp only; omega) (.int .i64 9)) (a := ⟨w.heap.size, 1, none⟩) (by dsimp only; omega) (.int .i64 1)) (a := ⟨w.heap.size, 2, none⟩) (by dsimp only; omega) (.slice AG 9 cG)) (a := ⟨w.heap.size, 3, none⟩) (by dsimp only; omega) (.slice AP 9 cP))
      have sP := Sl.of_own (by decide) (ownsRow_setCell_below (ownsRow_setCell_below (ownsRow_setCell_below (ownsRow_setCell_below oP (a := ⟨w.heap.size, 0, none⟩) (by dsimp only; omega) (.int .i64 9)) (a := ⟨w.heap.size, 1, none⟩) (by dsimp only; omega) (.int .i64 1)) (a := ⟨w.heap.size, 2, none⟩) (by dsimp only; omega) (.slice AG 9 cG)) (a := ⟨w.heap.size, 3, none⟩) (by dsimp only; omega) (.slice AP 9 cP))
      have bF := (((hBr.setCell (p := ⟨w.heap.size, 0, none⟩) (Nat.le_refl _) (.int .i64 9)).setCell (p := ⟨w.heap.size, 1, none⟩) (Nat.le_refl _) (.int .i64 1)).setCell (p := ⟨w.heap.size, 2, none⟩) (Nat.le_refl _) (.slice AG 9 cG)).setCell (p := ⟨w.heap.size, 3, none⟩) (Nat.le_refl _) (.slice AP 9 cP)
      go_wp2_with fail
      refine bodyPost_ret (v := tv 9 1 AG AP 9 cG 9 cP) ?_ rfl ⟨AG, cG, AP, cP, rfl, sG, sP, bF⟩
      simp [results, Tryz.results29, go_sem, z0, z1, z2, z3]
end Go.Proofs.YtohkbblfcjmmnaaGreatDoor
