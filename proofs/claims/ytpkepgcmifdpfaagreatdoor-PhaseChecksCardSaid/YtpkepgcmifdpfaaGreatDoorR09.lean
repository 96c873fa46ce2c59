/- A bundle of texts: Bs. -/
import Derived.Test.YtpkepgcmifdpfaaGreatDoorR01
import Derived.Test.YtpkepgcmifdpfaaGreatDoorR03
import Derived.Test.YtpkepgcmifdpfaaGreatDoorProg
import Derived.Laws.Bits64b
import Derived.RegionTactic
import Derived.BigRegion
section
namespace Go.Proofs.YtpkepgcmifdpfaaGreatDoor
open Go Go.RowKit
set_option maxRecDepth 100000
abbrev bsc (n : Nat) : Array Value := #[.int .u64 (Bs.wd n 0 : Nat), .int .u64 (Bs.wd n 1 : Nat), .int .u64 (Bs.wd n 2 : Nat), .int .u64 (Bs.wd n 3 : Nat), .int .u64 (Bs.wd n 4 : Nat), .int .u64 (Bs.wd n 5 : Nat), .int .u64 (Bs.wd n 6 : Nat), .int .u64 (Bs.wd n 7 : Nat)]
abbrev bsv (n : Nat) : Value := .agg (bsc n)
theorem bsc_at {n k : Nat} (hk : k < 8) : (bsc n)[k]? = some (.int .u64 (Bs.wd n k : Nat)) := by
  match k, hk with
  | 0, _ | 1, _ | 2, _ | 3, _ | 4, _ | 5, _ | 6, _ | 7, _ => rfl
theorem Box.w8 {w : World} {b n k : Nat} {t : TypeId} (h : Box w b (bsc n) t) (hk : k < 8) : w.cell? ⟨b, k, none⟩ = some (.int .u64 (Bs.wd n k : Nat)) := h.cell k (bsc_at hk)
theorem bsc_set {n m k : Nat} (hk : k < 8) (h : ∀ j, j < 8 → j ≠ k → Bs.wd m j = Bs.wd n j) {x : Nat} (hx : Bs.wd m k = x) : (bsc n).setIfInBounds k (.int .u64 (x : Nat)) = bsc m := by
  subst hx
  match k, hk with
  | 0, _ | 1, _ | 2, _ | 3, _ | 4, _ | 5, _ | 6, _ | 7, _ =>
    simp only [bsc, List.setIfInBounds_toArray, List.set_cons_succ, List.set_cons_zero]
    simp (disch := decide) only [h]
set_option maxHeartbeats 1000000 in
theorem inRange_yes (i : Nat) (w : World) (hi : i < 512) : Calls Tryz.prog 145 #[.int .i64 i] w fun e w' => e = .returned (.bool true) ∧ w = w' := by
  have h1 : (0 : Int) ≤ i := by omega
  have h2 : (i : Int) < 512 := by omega
  go_enter Tryz.func145, Tryz.ntmps145
  go_wp2_with fail
  go_ret
  exact ⟨rfl, rfl⟩
theorem wrap_pow {s : Nat} (h : s < 64) : IntKind.u64.wrap ((2 : Int) ^ s) = ((2 ^ s : Nat) : Int) := by
  have h1 := Bs.pow_lt h
  rw [show ((2 : Int) ^ s) = ((2 ^ s : Nat) : Int) by rw [Int.natCast_pow]; rfl, IntKind.wrap_u64]
  generalize 2 ^ s = x at h1
  omega
theorem or_val {n k s : Nat} (hs : s < 64) : bits BinOp.or IntKind.u64 ((Bs.wd n k : Nat) : Int) (IntKind.u64.wrap ((2 : Int) ^ s)) = ((Bs.wd n k ||| 2 ^ s : Nat) : Int) := by
  rw [wrap_pow hs, bits_or_u64_nat _ _ (Bs.wd_lt _ _) (Bs.pow_lt hs)]
theorem set8v (cs : Array Value) (hs : cs.size = 8) (v0 v1 v2 v3 v4 v5 v6 v7 : Value) : ((((((((cs.setIfInBounds 0 v0).setIfInBounds 1 v1).setIfInBounds 2 v2).setIfInBounds 3 v3).setIfInBounds 4 v4).setIfInBounds 5 v5).setIfInBounds 6 v6).setIfInBounds 7 v7) = #[v0, v1, v2, v3, v4, v5, v6, v7] := by
  obtain ⟨l⟩ := cs
  match l, hs with
  | [_, _, _, _, _, _, _, _], _ => simp only [List.setIfInBounds_toArray, List.set_cons_zero, List.set_cons_succ]
theorem store8 (w : World) (b n : Nat) (cs : Array Value) (t : TypeId) (hb : Box w b cs t) (hs : cs.size = 8) :
    ∃ Y, Hid ((((((((w.setCell ⟨b, 0, none⟩ (.int .u64 (Bs.wd n 0 : Nat))).setCell ⟨b, 1, none⟩ (.int .u64 (Bs.wd n 1 : Nat))).setCell ⟨b, 2, none⟩ (.int .u64 (Bs.wd n 2 : Nat))).setCell ⟨b, 3, none⟩ (.int .u64 (Bs.wd n 3 : Nat))).setCell ⟨b, 4, none⟩ (.int .u64 (Bs.wd n 4 : Nat))).setCell ⟨b, 5, none⟩ (.int .u64 (Bs.wd n 5 : Nat))).setCell ⟨b, 6, none⟩ (.int .u64 (Bs.wd n 6 : Nat))).setCell ⟨b, 7, none⟩ (.int .u64 (Bs.wd n 7 : Nat)) = Y) ∧
      Box Y b (bsc n) t ∧ (∀ B u, B ≤ b → Below B u w → Below B u Y) ∧ Y.heap.size = w.heap.size ∧ (∀ b' cs' t', b' ≠ b → Box w b' cs' t' → Box Y b' cs' t') := by
  refine ⟨_, Lib.hid rfl, ?_, ?_, by simp, ?_⟩
  · have h := (((((((hb.set 0 (.int .u64 (Bs.wd n 0 : Nat))).set 1 (.int .u64 (Bs.wd n 1 : Nat))).set 2 (.int .u64 (Bs.wd n 2 : Nat))).set 3 (.int .u64 (Bs.wd n 3 : Nat))).set 4 (.int .u64 (Bs.wd n 4 : Nat))).set 5 (.int .u64 (Bs.wd n 5 : Nat))).set 6 (.int .u64 (Bs.wd n 6 : Nat))).set 7 (.int .u64 (Bs.wd n 7 : Nat))
    rw [set8v cs hs] at h
    exact h
  · intro B u hB hu
    exact (((((((hu.setCell (p := ⟨b, 0, none⟩) hB _).setCell (p := ⟨b, 1, none⟩) hB _).setCell (p := ⟨b, 2, none⟩) hB _).setCell (p := ⟨b, 3, none⟩) hB _).setCell (p := ⟨b, 4, none⟩) hB _).setCell (p := ⟨b, 5, none⟩) hB _).setCell (p := ⟨b, 6, none⟩) hB _).setCell (p := ⟨b, 7, none⟩) hB _
  · intro b' cs' t' hne h
    exact (((((((h.set_other (p := ⟨b, 0, none⟩) hne _).set_other (p := ⟨b, 1, none⟩) hne _).set_other (p := ⟨b, 2, none⟩) hne _).set_other (p := ⟨b, 3, none⟩) hne _).set_other (p := ⟨b, 4, none⟩) hne _).set_other (p := ⟨b, 5, none⟩) hne _).set_other (p := ⟨b, 6, none⟩) hne _).set_other (p := ⟨b, 7, none⟩) hne _
theorem Box.w {w : World} {b n : Nat} {t : TypeId} (h : Box w b (bsc n) t) : w.cell? ⟨b, 0, none⟩ = some (.int .u64 (Bs.wd n 0 : Nat)) ∧ w.cell? ⟨b, 1, none⟩ = some (.int .u64 (Bs.wd n 1 : Nat)) ∧ w.cell? ⟨b, 2, none⟩ = some (.int .u64 (Bs.wd n 2 : Nat)) ∧ w.cell? ⟨b, 3, none⟩ = some (.int .u64 (Bs.wd n 3 : Nat)) ∧ w.cell? ⟨b, 4, none⟩ = some (.int .u64 (Bs.wd n 4 : Nat)) ∧ w.cell? ⟨b, 5, none⟩ = some (.int .u64 (Bs.wd n 5 : Nat)) ∧ w.cell? ⟨b, 6, none⟩ = some (.int .u64 (Bs.wd n 6 : Nat)) ∧ w.cell? ⟨b, 7, none⟩ = some (.int .u64 (Bs.wd n 7 : Nat)) := h.c8
set_option maxHeartbeats 4000000 in
theorem bsAdd_ok (n i : Nat) (w : World) (hi : i < 512) : Calls Tryz.prog 121 #[bsv n, .int .i64 i] w fun e w' => e = .returned (.tuple #[bsv (n ||| 2 ^ i), .int .i64 0]) ∧ Below w.heap.size w w' := by
  obtain ⟨V, HW, x0, x1, hB, hs⟩ := boxes2 w (bsc n) 169 #[.int .u64 0, .int .u64 0, .int .u64 0, .int .u64 0, .int .u64 0, .int .u64 0, .int .u64 0, .int .u64 0] 169
  obtain ⟨k, hk⟩ : ∃ k : Nat, (i : Int) / 64 = (k : Int) := ⟨i / 64, by omega⟩
  obtain ⟨s, hs'⟩ : ∃ s : Nat, (i : Int) % 64 = (s : Int) := ⟨i % 64, by omega⟩
  have hk8 : k < 8 := by omega
  have hs8 : s < 64 := by omega
  have a0 := x0.w8 hk8
  have f0 := x0.frozen k
  have hV := HW.out
  obtain ⟨m, HM⟩ : ∃ m, Hid (n ||| 2 ^ i = m) := ⟨_, Lib.hid rfl⟩
  rw [HM.out]
  go_enter Tryz.func121, Tryz.ntmps121
  go_wp2_with fail
  clear hV
  refine (inRange_yes i V hi).mono ?_
  rintro e w1 ⟨rfl, rfl⟩
  go_wp2_with fail
  go_region
  have hm : (bsc n).setIfInBounds k (.int .u64 ((Bs.wd n k ||| 2 ^ s : Nat) : Int)) = bsc m := by
    rw [← HM.out]
    obtain rfl : k = i / 64 := by omega
    obtain rfl : s = i % 64 := by omega
    exact bsc_set hk8 (fun j _ hj => Bs.wd_add_other hj) Bs.wd_add_same
  rw [or_val hs8]
  obtain ⟨U, HU⟩ : ∃ U, Hid ((V.setCell ⟨w.heap.size, k, none⟩ (.int .u64 ((Bs.wd n k ||| 2 ^ s : Nat) : Int))).drew = U) := ⟨_, Lib.hid rfl⟩
  have y0 : Box U w.heap.size (bsc m) 169 := by
    rw [← HU.out, ← hm]; exact x0.set k _
  have y1 : Box U (w.heap.size + 1) #[.int .u64 0, .int .u64 0, .int .u64 0, .int .u64 0, .int .u64 0, .int .u64 0, .int .u64 0, .int .u64 0] 169 := by
    rw [← HU.out]; exact x1.set_other (p := ⟨w.heap.size, k, none⟩) (by simp) _
  have hBU : Below w.heap.size w U := by
    rw [← HU.out]; exact (hB.setCell (p := ⟨w.heap.size, k, none⟩) (Nat.le_refl _) _).drew
  rw [HU.out]
  clear hm a0 f0 x0 x1
  obtain ⟨Y, HY, z, hBY, -, -⟩ := store8 U (w.heap.size + 1) m _ _ y1 rfl
  have hY := HY.out
  obtain ⟨c0, c1, c2, c3, c4, c5, c6, c7⟩ := y0.w
  have g0 := y1.frozen 0
  have g1 := y1.frozen 1
  have g2 := y1.frozen 2
  have g3 := y1.frozen 3
  have g4 := y1.frozen 4
  have g5 := y1.frozen 5
  have g6 := y1.frozen 6
  have g7 := y1.frozen 7
  obtain ⟨d0, d1, d2, d3, d4, d5, d6, d7⟩ := y1.c8
  obtain ⟨z0, z1, z2, z3, z4, z5, z6, z7⟩ := z.w
  go_wp2_with fail
  refine bodyPost_ret (v := .tuple #[bsv m, .int .i64 0]) ?_ rfl ⟨rfl, hBY _ _ (by omega) hBU⟩
  simp [results, Tryz.results121, go_sem, z0, z1, z2, z3, z4, z5, z6, z7]
set_option maxHeartbeats 1000000 in
theorem eqWords (d : Nat) (a0 a1 a2 a3 a4 a5 a6 a7 b0 b1 b2 b3 b4 b5 b6 b7 : Int) (w : World) : (Op.equalIn (d + 2) 167 (.agg #[.int .u64 a0, .int .u64 a1, .int .u64 a2, .int .u64 a3, .int .u64 a4, .int .u64 a5, .int .u64 a6, .int .u64 a7]) (.agg #[.int .u64 b0, .int .u64 b1, .int .u64 b2, .int .u64 b3, .int .u64 b4, .int .u64 b5, .int .u64 b6, .int .u64 b7])).run Tryz.prog w = .ok (a0 == b0 && a1 == b1 && a2 == b2 && a3 == b3 && a4 == b4 && a5 == b5 && a6 == b6 && a7 == b7) w := by
  have u3 := Tryz.underlying166
  have u4 := Tryz.underlying167
  have z3 := Tryz.sizeOf166
  have ag := Tryz.isAgg166
  unfold Op.equalIn
  go_simp
  rw [show List.range' 0 8 = [0, 1, 2, 3, 4, 5, 6, 7] from rfl]
  by_cases h0 : a0 = b0
  · by_cases h1 : a1 = b1
    · by_cases h2 : a2 = b2
      · by_cases h3 : a3 = b3
        · by_cases h4 : a4 = b4
          · by_cases h5 : a5 = b5
            · by_cases h6 : a6 = b6
              · by_cases h7 : a7 = b7 <;> go_simp
              · go_simp
            · go_simp
          · go_simp
        · go_simp
      · go_simp
    · go_simp
  · go_simp
set_option maxHeartbeats 1000000 in
theorem eqSetW (a0 a1 a2 a3 a4 a5 a6 a7 b0 b1 b2 b3 b4 b5 b6 b7 : Int) (w : World) : (Op.equalIn 10000 169 (.agg #[.int .u64 a0, .int .u64 a1, .int .u64 a2, .int .u64 a3, .int .u64 a4, .int .u64 a5, .int .u64 a6, .int .u64 a7]) (.agg #[.int .u64 b0, .int .u64 b1, .int .u64 b2, .int .u64 b3, .int .u64 b4, .int .u64 b5, .int .u64 b6, .int .u64 b7])).run Tryz.prog w = .ok (a0 == b0 && a1 == b1 && a2 == b2 && a3 == b3 && a4 == b4 && a5 == b5 && a6 == b6 && a7 == b7) w := by
  have hS : Tryz.prog.underlying 169 = some (.struct (Tryz.prog.fieldsOf 169)) := by kernel_rfl
  have hp : Tryz.prog.stoodInHeld 169 = false := by kernel_rfl
  have hw := fun w => eqWords 9997 a0 a1 a2 a3 a4 a5 a6 a7 b0 b1 b2 b3 b4 b5 b6 b7 w
  rw [show (10000 : Nat) = 9999 + 1 from rfl, run_equalIn_agg w 9999 169 _ _ hS hp]
  simp only [Program.fieldsOf, Tryz.underlying169]
  have z8 := Tryz.sizeOf167
  have g8 := Tryz.isAgg167
  go_simp
  generalize (a0 == b0 && a1 == b1 && a2 == b2 && a3 == b3 && a4 == b4 && a5 == b5 && a6 == b6 && a7 == b7) = r at *
  cases r <;> simp
theorem eqSet0 {n : Nat} (hn : Bs.Fit n) (w : World) : (Op.equalIn 10000 169 (bsv n) (.agg #[.int .u64 0, .int .u64 0, .int .u64 0, .int .u64 0, .int .u64 0, .int .u64 0, .int .u64 0, .int .u64 0])).run Tryz.prog w = .ok (decide (n = 0)) w := by
  rw [eqSetW]
  congr 1
  rw [Bool.eq_iff_iff]
  simp only [Bool.and_eq_true, beq_iff_eq, decide_eq_true_eq, Bs.zero_iff hn]
  constructor
  · rintro ⟨⟨⟨⟨⟨⟨⟨h0, h1⟩, h2⟩, h3⟩, h4⟩, h5⟩, h6⟩, h7⟩ k hk
    match k, hk with
    | 0, _ | 1, _ | 2, _ | 3, _ | 4, _ | 5, _ | 6, _ | 7, _ => omega
  · intro h
    have := h 0 (by decide); have := h 1 (by decide); have := h 2 (by decide); have := h 3 (by decide); have := h 4 (by decide); have := h 5 (by decide); have := h 6 (by decide); have := h 7 (by decide)
    omega
@[go_sem] theorem guardSet : Tryz.prog.eqGuardType Tryz.prog.depth 169 = false := by kernel_rfl
set_option maxHeartbeats 4000000 in
theorem bsEmpty_ok (n : Nat) (hn : Bs.Fit n) (w : World) : Calls Tryz.prog 177 #[bsv n] w fun e w' => e = .returned (.bool (decide (n = 0))) ∧ Below w.heap.size w w' := by
  obtain ⟨V, HW, x0, hB, -⟩ := boxes1 w (bsc n) 169
  have hq := eqSet0 hn
  obtain ⟨r, HR⟩ : ∃ r, Hid (decide (n = 0) = r) := ⟨_, Lib.hid rfl⟩
  rw [HR.out]
  simp only [HR.out] at hq
  obtain ⟨c0, c1, c2, c3, c4, c5, c6, c7⟩ := x0.w
  have hV := HW.out
  go_enter Tryz.func177, Tryz.ntmps177
  go_wp2_with fail
  go_ret
  exact ⟨rfl, hB⟩
theorem and127 (x : Int) : ∃ r : Nat, r ≤ 127 ∧ bits BinOp.and IntKind.i64 x 127 = (r : Int) := by
  refine ⟨((BitVec.ofInt 64 x).toNat &&& 127), Nat.and_le_right, ?_⟩
  show IntKind.i64.wrap ((BitVec.ofInt 64 x &&& BitVec.ofInt 64 127).toNat : Int) = _
  rw [BitVec.toNat_and, show (BitVec.ofInt 64 127).toNat = 127 from rfl]
  have h : (BitVec.ofInt 64 x).toNat &&& 127 ≤ 127 := Nat.and_le_right
  generalize (BitVec.ofInt 64 x).toNat &&& 127 = r at *
  unfold IntKind.wrap
  simp [IntKind.bits, IntKind.signed]
  omega
def RetUpTo (m : Nat) (w : World) (e : Ending) (w' : World) : Prop := ∃ r : Nat, r ≤ m ∧ e = .returned (.int .i64 r) ∧ w = w'
set_option maxHeartbeats 4000000 in
theorem onesCount_some (x : Nat) (w : World) : Calls Tryz.prog 172 #[.int .u64 x] w (RetUpTo 127 w) := by
  go_enter Tryz.func172, Tryz.ntmps172
  go_wp2_with fail
  go_ret
  exact (and127 _).imp fun r h => ⟨h.1, ret_int h.2, rfl⟩
end Go.Proofs.YtpkepgcmifdpfaaGreatDoor
end
