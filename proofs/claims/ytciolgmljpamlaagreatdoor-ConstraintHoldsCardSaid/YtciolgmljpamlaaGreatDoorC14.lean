/- A bundle of texts: Loss, Obs, Total. -/
import Derived.Test.YtciolgmljpamlaaGreatDoorC11
import Derived.Test.YtciolgmljpamlaaGreatDoorC13
section
namespace Go.Proofs.YtciolgmljpamlaaGreatDoor
open Go Go.RowKit
set_option maxRecDepth 100000
set_option maxHeartbeats 4000000 in
theorem square_ok (ax ay bx by' : Int) (w : World) (h1 : M.c63 ax) (h2 : M.c63 ay) (h3 : M.c63 bx) (h4 : M.c63 by') :
    Calls Tryz.prog 176 #[cv ax ay, cv bx by'] w fun e w' => e = .returned (.tuple #[.int .i64 (M.sq ax ay bx by'), .int .i64 0]) ∧ Below w.heap.size w w' := by
  obtain ⟨V, HW, x0, x1, hB, -⟩ := boxes2 w #[.int .i64 ax, .int .i64 ay] 113 #[.int .i64 bx, .int .i64 by'] 113
  have hsx := M.sq_half h1 h3
  have hsy := M.sq_half h2 h4
  have HQ : Hid (M.sq ax ay bx by' = (bx - ax) * (bx - ax) + (by' - ay) * (by' - ay)) := Lib.hid rfl
  unfold M.c63 at h1 h2 h3 h4
  obtain ⟨dx, hdx⟩ : ∃ d, bx - ax = d := ⟨_, rfl⟩
  obtain ⟨dy, hdy⟩ : ∃ d, by' - ay = d := ⟨_, rfl⟩
  rw [hdx] at hsx HQ
  rw [hdy] at hsy HQ
  obtain ⟨qx, hqx⟩ : ∃ d, dx * dx = d := ⟨_, rfl⟩
  obtain ⟨qy, hqy⟩ : ∃ d, dy * dy = d := ⟨_, rfl⟩
  rw [hqx] at hsx HQ
  rw [hqy] at hsy HQ
  have bdx : -63 ≤ dx ∧ dx ≤ 63 := by omega
  have bdy : -63 ≤ dy ∧ dy ≤ 63 := by omega
  have q0 : decide (ax < 0) = false := by simp; omega
  have r0 : decide (64 ≤ ax) = false := by simp; omega
  have q1 : decide (ay < 0) = false := by simp; omega
  have r1 : decide (64 ≤ ay) = false := by simp; omega
  have q2 : decide (bx < 0) = false := by simp; omega
  have r2 : decide (64 ≤ bx) = false := by simp; omega
  have q3 : decide (by' < 0) = false := by simp; omega
  have r3 : decide (64 ≤ by') = false := by simp; omega
  obtain ⟨c0, c1⟩ := x0.c2
  obtain ⟨d0, d1⟩ := x1.c2
  go_enter Tryz.func176, Tryz.ntmps176
  go_wp2_with fail
  rw [HW.out]
  go_loop [7, 19] (fun _ i => (i = .int .i64 0 ∨ i = .int .i64 1 ∨ i = .int .i64 2 ∨ i = .int .i64 3 ∨ i = .int .i64 4)) (fun _ i => 4 - (intOf i).toNat)
  case atStart => exact .inl rfl
  case round =>
    have j0 : ∀ w, (Instr.index 189 (.agg #[.int .i64 ax, .int .i64 ay, .int .i64 bx, .int .i64 by']) (.int .i64 0)).run Tryz.prog w = .ok (.int .i64 ax) w := fun _ => by kernel_rfl
    have j1 : ∀ w, (Instr.index 189 (.agg #[.int .i64 ax, .int .i64 ay, .int .i64 bx, .int .i64 by']) (.int .i64 1)).run Tryz.prog w = .ok (.int .i64 ay) w := fun _ => by kernel_rfl
    have j2 : ∀ w, (Instr.index 189 (.agg #[.int .i64 ax, .int .i64 ay, .int .i64 bx, .int .i64 by']) (.int .i64 2)).run Tryz.prog w = .ok (.int .i64 bx) w := fun _ => by kernel_rfl
    have j3 : ∀ w, (Instr.index 189 (.agg #[.int .i64 ax, .int .i64 ay, .int .i64 bx, .int .i64 by']) (.int .i64 3)).run Tryz.prog w = .ok (.int .i64 by') w := fun _ => by kernel_rfl
    obtain rfl | rfl | rfl | rfl | rfl := hrel
    · go_wp2_with fail
      go_round
      case rel => exact .inr (.inl rfl)
      case measure => simp [intOf]
    · go_wp2_with fail
      go_round
      case rel => exact .inr (.inr (.inl rfl))
      case measure => simp [intOf]
    · go_wp2_with fail
      go_round
      case rel => exact .inr (.inr (.inr (.inl rfl)))
      case measure => simp [intOf]
    · go_wp2_with fail
      go_round
      case rel => exact .inr (.inr (.inr (.inr rfl)))
      case measure => simp [intOf]
    · clear j0 j1 j2 j3
      go_wp2_with fail
      go_quiet (fail)
      go_wp2_with fail
      go_ret2
      exact ⟨ret_int2 HQ.out.symm rfl, below_drewN hB _⟩
end Go.Proofs.YtciolgmljpamlaaGreatDoor
end

section
namespace Go.Proofs.YtciolgmljpamlaaGreatDoor
open Go Go.RowKit
set_option maxRecDepth 100000
theorem M.gnd_bd {W : Int} {G : List Int} (h : ∀ g ∈ G, 0 ≤ g ∧ g ≤ 9000) (p : Int × Int) : 0 ≤ M.gnd W G p ∧ M.gnd W G p ≤ 9000 := by
  unfold M.gnd
  generalize (p.2 * W + p.1).toNat = j
  by_cases hj : j < G.length
  · have := h G[j] (List.getElem_mem hj)
    simpa [hj] using this
  · simp [Nat.le_of_not_lt hj]
def M.okObs (W H : Int) (G P : List Int) (ax ay f bx by' t : Int) : Bool := M.isIn f 0 500 && M.isIn t 0 500 && (M.tvalid W H G P && M.inside W H ax ay && M.inside W H bx by')
theorem M.okObs_iff {W H : Int} {G P : List Int} {ax ay f bx by' t : Int} : M.okObs W H G P ax ay f bx by' t = true ↔ (0 ≤ f ∧ f ≤ 500) ∧ (0 ≤ t ∧ t ≤ 500) ∧ M.tvalid W H G P = true ∧ M.inside W H ax ay = true ∧ M.inside W H bx by' = true := by
  unfold M.okObs
  simp only [Bool.and_eq_true, M.isIn_iff]
  constructor
  · rintro ⟨⟨a, b⟩, ⟨c, d⟩, e⟩; exact ⟨a, b, c, d, e⟩
  · rintro ⟨a, b, c, d, e⟩; exact ⟨⟨a, b⟩, ⟨c, d⟩, e⟩
set_option maxHeartbeats 4000000 in
theorem obs_no (W H : Int) (GA PA : Option Addr) (gc pc : Nat) (G P : List Int) (ax ay f bx by' t : Int) (w : World) (hg : Sl 1 icell w w.heap.size GA G) (hp : Sl 1 icell w w.heap.size PA P) (hgl : G.length ≤ 9223372036854775807) (hpl : P.length ≤ 9223372036854775807)
    (hno : M.okObs W H G P ax ay f bx by' t = false) : Calls Tryz.prog 175 #[tv W H GA PA G.length gc P.length pc, cv ax ay, .int .i64 f, cv bx by', .int .i64 t] w (RetL 2 ccell w ([] : List (Int × Int)) 2) := by
  obtain ⟨V, HW, x0, x1, x2, hB, -⟩ := boxes3 w #[.int .i64 W, .int .i64 H, .slice GA G.length gc, .slice PA P.length pc] 24 #[.int .i64 ax, .int .i64 ay] 113 #[.int .i64 bx, .int .i64 by'] 113
  have hg1 := (hg.below hB).more hB.size
  have hp1 := (hp.below hB).more hB.size
  have HN := Lib.hid hno
  clear hno
  by_cases hft : (0 ≤ f ∧ f ≤ 500) ∧ (0 ≤ t ∧ t ≤ 500)
  · obtain ⟨hf, ht⟩ := hft
    have hpn : (M.tvalid W H G P && M.inside W H ax ay && M.inside W H bx by') = false := by
      have := HN.out
      unfold M.okObs at this
      rw [M.isIn_iff.2 hf, M.isIn_iff.2 ht] at this
      simpa using this
    have HP := Lib.hid hpn
    clear hpn
    go_enter Tryz.func175, Tryz.ntmps175
    go_wp2_with fail
    rw [HW.out]
    refine (profile_no W H GA PA gc pc G P ax ay bx by' V hg1 hp1 hgl hpl HP.out).mono ?_
    rintro e w1 ⟨PA1, c1, rfl, _, hb1⟩
    go_wp2_with fail
    go_ret2
    exact RetL.none (after_ hB hb1)
  · have h' : f < 0 ∨ 500 < f ∨ t < 0 ∨ 500 < t := by omega
    clear hft
    go_enter Tryz.func175, Tryz.ntmps175
    go_wp2_with fail
    all_goals
      first
        | (go_ret2
           rw [HW.out]
           exact RetL.none hB)
        | (exfalso; omega)
set_option maxHeartbeats 8000000 in
theorem obs_ok (W H : Int) (GA PA : Option Addr) (gc pc : Nat) (G P : List Int) (ax ay f bx by' t : Int) (w : World) (hg : Sl 1 icell w w.heap.size GA G) (hp : Sl 1 icell w w.heap.size PA P)
    (hok : M.okObs W H G P ax ay f bx by' t = true) : Calls Tryz.prog 175 #[tv W H GA PA G.length gc P.length pc, cv ax ay, .int .i64 f, cv bx by', .int .i64 t] w (RetL 2 ccell w (M.obst W G ax ay f bx by' t) 0) := by
  obtain ⟨V, HW, x0, x1, x2, hB, -⟩ := boxes3 w #[.int .i64 W, .int .i64 H, .slice GA G.length gc, .slice PA P.length pc] 24 #[.int .i64 ax, .int .i64 ay] 113 #[.int .i64 bx, .int .i64 by'] 113
  have hg1 := (hg.below hB).more hB.size
  have hp1 := (hp.below hB).more hB.size
  obtain ⟨hf, ht, hv, hia, hib⟩ := M.okObs_iff.1 hok
  obtain ⟨t1, t2, -, -, t5, -⟩ := M.tvalid_iff.1 hv
  obtain ⟨a1, a2⟩ := M.inside_iff.1 hia
  obtain ⟨b1, b2⟩ := M.inside_iff.1 hib
  have HV := Lib.hid hv; have HA := Lib.hid hia; have HB := Lib.hid hib
  have ga := M.gnd_bd (W := W) t5 (ax, ay)
  have gb := M.gnd_bd (W := W) t5 (bx, by')
  have HG : Hid (∀ i, 0 ≤ M.gnd W G (M.lineAt ax ay bx by' i) ∧ M.gnd W G (M.lineAt ax ay bx by' i) ≤ 9000) := Lib.hid (fun i => M.gnd_bd t5 _)
  clear hok hv hia hib t5
  have q1 : decide (f < 0) = false := by simp; omega
  have q2 : decide (500 < f) = false := by simp; omega
  have q3 : decide (t < 0) = false := by simp; omega
  have q4 : decide (500 < t) = false := by simp; omega
  obtain ⟨i0, hi, hz0, hz1, hz2⟩ := info_parts cellInfo
  have Hi := Lib.hid hi; have Hz0 := Lib.hid hz0; have Hz1 := Lib.hid hz1; have Hz2 := Lib.hid hz2
  clear hi hz0 hz1 hz2
  go_enter Tryz.func175, Tryz.ntmps175
  go_wp2_with fail
  rw [HW.out]
  refine (profile_ok W H GA PA gc pc G P ax ay bx by' V hg1 hp1 HV.out HA.out HB.out).mono ?_
  rintro e w1 ⟨PA1, pc1, rfl, hSP, hb1⟩
  have B1 := after_ hB hb1
  have y1 := x1.below hb1
  have y2 := x2.below hb1
  obtain ⟨c0, c1⟩ := y1.c2
  obtain ⟨d0, d1⟩ := y2.c2
  clear x0 x1 x2 hb1 hg1 hp1
  go_wp2_with fail
  refine (line_ok ax ay bx by' w1 ⟨a1.1, by omega⟩ ⟨a2.1, by omega⟩ ⟨b1.1, by omega⟩ ⟨b2.1, by omega⟩).mono ?_
  rintro e w2 ⟨LA, lc, rfl, hSL, hb2⟩
  have B2 := after_ B1 hb2
  have hSP2 := (hSP.below hb2).more hb2.size
  clear c0 c1 d0 d1 y1 y2 hSP B1 hb2
  have hll : (M.lineN ax ay bx by') ≤ 62 := by
    have := M.span_bd (ax := ax) (ay := ay) (bx := bx) (by' := by') ⟨a1.1, by omega⟩ ⟨a2.1, by omega⟩ ⟨b1.1, by omega⟩ ⟨b2.1, by omega⟩
    unfold M.lineN; omega
  have hpl := M.prof_length W G ax ay bx by'
  have hp0 : 0 < (M.prof W G ax ay bx by').length := by rw [hpl]; split <;> omega
  have hp3 : M.lineN ax ay bx by' + 1 ≤ (M.prof W G ax ay bx by').length := by rw [hpl]; split <;> omega
  have hp4 : (M.prof W G ax ay bx by').length ≤ 100 := by rw [hpl]; split <;> omega
  clear hpl
  obtain ⟨pa, rfl, hpb, hpc⟩ := hSP2.ints hp0
  have e0 := hpc 0 hp0
  rw [M.prof_first] at e0
  rw [show pa.add 0 = pa from rfl] at e0
  have e1 := hpc ((M.prof W G ax ay bx by').length - 1) (by omega)
  rw [M.prof_last] at e1
  have HC : Hid (∀ i, i < M.lineN ax ay bx by' → w2.cell? (pa.add (i + 1)) = some (.int .i64 (M.gnd W G (M.lineAt ax ay bx by' i)))) := Lib.hid (fun i h => by rw [hpc (i + 1) (by omega), M.prof_at h])
  clear hpc hSP2
  have HL : Hid (∀ i (h : i < (M.line ax ay bx by').length), (M.line ax ay bx by')[i] = M.lineAt ax ay bx by' i) := Lib.hid (fun i h => M.line_at h)
  have HLl := Lib.hid (M.line_length ax ay bx by')
  have HO : Hid (∀ i, M.obsC W G ax ay f bx by' t i = decide ((M.gnd W G (ax, ay) + f) * (((M.lineN ax ay bx by' : Nat) : Int) + 1 - ((i : Int) + 1)) + (M.gnd W G (bx, by') + t) * ((i : Int) + 1) ≤ M.gnd W G (M.lineAt ax ay bx by' i) * (((M.lineN ax ay bx by' : Nat) : Int) + 1))) := Lib.hid (fun i => rfl)
  generalize M.prof W G ax ay bx by' = PR at *
  generalize M.line ax ay bx by' = L at *
  generalize M.gnd W G (ax, ay) = g1 at *
  generalize M.gnd W G (bx, by') = g2 at *
  obtain ⟨N, hN⟩ : ∃ N, M.lineN ax ay bx by' = N := ⟨_, rfl⟩
  have HN := Lib.hid hN
  rw [hN] at HO HC hp3 hll
  rw [hN] at HLl
  clear hN
  obtain ⟨Pl, hPl⟩ : ∃ n, PR.length = n := ⟨_, rfl⟩
  rw [hPl] at hp0 hp3 hp4 e1 ⊢
  clear hPl
  obtain ⟨Q, hQ⟩ : ∃ q : Nat, Pl = q + 1 := ⟨Pl - 1, by omega⟩
  subst hQ
  rw [Nat.add_sub_cancel] at e1
  rw [HLl.out]
  go_wp2_with fail
  clear e0 e1 hp0
  have hF : 0 ≤ g1 + f ∧ g1 + f ≤ 9500 := by omega
  have hT : 0 ≤ g2 + t ∧ g2 + t ≤ 9500 := by omega
  generalize g1 + f = F at *
  generalize g2 + t = T at *
  obtain ⟨NN, hNN⟩ : ∃ n : Int, (N : Int) + 1 = n := ⟨_, rfl⟩
  rw [hNN] at HO ⊢
  go_loopw [18, 19] (fun out i wr => ∃ k : Nat, k ≤ N ∧ i = .int .i64 ((k : Int) + 1) ∧ Below w2.heap.size w2 wr ∧ wr.ownsRow w2.heap.size 113 2 out (M.obstTo W G ax ay f bx by' t k).length (flat 2 ccell (M.obstTo W G ax ay f bx by' t k))) (fun _ i _ => 64 - (intOf i).toNat)
  case atStart => exact ⟨0, Nat.zero_le _, rfl, Below.refl _ _, own_nil _ _ _ _ _⟩
  case round =>
    obtain ⟨k, hk, rfl, hBr, hown⟩ := hrel
    by_cases hlt : k < N
    · obtain ⟨la, rfl, hlb, e0, he⟩ := (hSL.below hBr).sp (k := k) (by decide) (by rw [HLl.out]; exact hlt)
      have e1 := he 1 (by decide) (by decide)
      clear he
      rw [HL.out] at e0 e1
      have c1 := (hBr.cell (p := pa.add (k + 1)) (by rw [add_block]; exact hpb)).trans (HC.out k hlt)
      rw [show pa.add (k + 1) = ⟨pa.block, pa.off + (k + 1), none⟩ by simp [Addr.add]] at c1
      have hgp := HG.out k
      have hoc := HO.out k
      have HY : Hid (M.obsC W G ax ay f bx by' t k = true → M.obstTo W G ax ay f bx by' t (k + 1) = M.obstTo W G ax ay f bx by' t k ++ [M.lineAt ax ay bx by' k]) := Lib.hid M.obstTo_yes
      have HZ : Hid (M.obsC W G ax ay f bx by' t k = false → M.obstTo W G ax ay f bx by' t (k + 1) = M.obstTo W G ax ay f bx by' t k) := Lib.hid M.obstTo_no
      have hol := M.obstTo_length W G ax ay f bx by' t k
      generalize M.gnd W G (M.lineAt ax ay bx by' k) = gp at *
      generalize M.lineAt ax ay bx by' k = p at *
      obtain ⟨px, py⟩ := p
      simp only [ccell] at e0 e1
      simp at e0 e1
      have s1 : ((k : Int) + 1).toNat = k + 1 := by omega
      have hd : 0 ≤ NN - ((k : Int) + 1) ∧ NN - ((k : Int) + 1) ≤ 63 := by omega
      have m1 : 0 ≤ F * (NN - ((k : Int) + 1)) ∧ F * (NN - ((k : Int) + 1)) ≤ 9500 * 63 := ⟨Int.mul_nonneg hF.1 hd.1, Int.mul_le_mul hF.2 hd.2 hd.1 (by omega)⟩
      have m2 : 0 ≤ T * ((k : Int) + 1) ∧ T * ((k : Int) + 1) ≤ 9500 * 63 := ⟨Int.mul_nonneg hT.1 (by omega), Int.mul_le_mul hT.2 (by omega) (by omega) (by omega)⟩
      have m3 : 0 ≤ gp * NN ∧ gp * NN ≤ 9500 * 63 := ⟨Int.mul_nonneg hgp.1 (by omega), Int.mul_le_mul (by omega) (by omega) (by omega) (by omega)⟩
      have hNb : 1 ≤ NN ∧ NN ≤ 63 := by omega
      have hkN : (k : Int) + 1 < NN := by omega
      have HNN := Lib.hid hNN
      clear hNN
      by_cases hc : F * (NN - ((k : Int) + 1)) + T * ((k : Int) + 1) ≤ gp * NN
      · have HT : Hid (M.obstTo W G ax ay f bx by' t (k + 1) = M.obstTo W G ax ay f bx by' t k ++ [(px, py)]) := Lib.hid (HY.out (by rw [hoc]; exact decide_eq_true hc))
        clear hoc HY HZ
        go_wp2_with (at_builtin; refine wpList_push (w0 := w2) (cell := ccell) (y := (px, py)) rfl _ _ _ rfl w2.heap.size w2.heap.size 113 i0 _ 16 Tryz.underlying200 Hi.out Hz0.out Hz1.out Hz2.out rfl (by decide) _ _ _ rfl hown _ _ rfl _ rfl (c_one _) (by unfold maxLen; omega) (by omega) hBr.size (Nat.le_refl _) hBr ?_; intro v' w' hown' hb' _)
        go_roundw
        case rel => exact ⟨k + 1, hlt, by go_num, hb', by rw [HT.out, List.length_append]; exact hown'⟩
        case measure => simp [intOf]; omega
      · have HT : Hid (M.obstTo W G ax ay f bx by' t (k + 1) = M.obstTo W G ax ay f bx by' t k) := Lib.hid (HZ.out (by rw [hoc]; exact decide_eq_false hc))
        clear hoc HY HZ
        go_wp2_with fail
        go_roundw
        case rel => exact ⟨k + 1, hlt, by go_num, hBr, by rw [HT.out]; exact hown⟩
        case measure => simp [intOf]; omega
    · obtain rfl : k = N := by omega
      have HF : Hid (M.obst W G ax ay f bx by' t = M.obstTo W G ax ay f bx by' t k) := Lib.hid (by unfold M.obst; rw [HN.out])
      rw [hNN]
      go_wp2_with fail
      go_ret2
      rw [HF.out]
      exact RetL.of (by decide) hown (B2.trans (hBr.mono B2.size))
end Go.Proofs.YtciolgmljpamlaaGreatDoor
end

section
namespace Go.Proofs.YtciolgmljpamlaaGreatDoor
open Go Go.RowKit
set_option maxRecDepth 100000
def M.tot (W : Int) (G : List Int) (ax ay f bx by' t : Int) : Int := (M.free (M.sq ax ay bx by').toNat : Nat) + 12 * min ((M.obst W G ax ay f bx by' t).length : Int) 5
theorem M.free_bd {n : Nat} (h : n ≤ 7938) : M.free n ≤ 512 := by
  unfold M.free
  split
  · omega
  · have := M.nd_512 h; omega
theorem M.c63_of {W H x y : Int} (hW : 1 ≤ W ∧ W ≤ 64) (hH : 1 ≤ H ∧ H ≤ 64) (h : M.inside W H x y = true) : M.c63 x ∧ M.c63 y := by
  obtain ⟨a, b⟩ := M.inside_iff.1 h
  unfold M.c63
  omega
set_option maxHeartbeats 4000000 in
theorem total_no (W H : Int) (GA PA : Option Addr) (gc pc : Nat) (G P : List Int) (ax ay f bx by' t : Int) (w : World) (hg : Sl 1 icell w w.heap.size GA G) (hp : Sl 1 icell w w.heap.size PA P) (hgl : G.length ≤ 9223372036854775807) (hpl : P.length ≤ 9223372036854775807)
    (hno : M.okObs W H G P ax ay f bx by' t = false) : Calls Tryz.prog 135 #[tv W H GA PA G.length gc P.length pc, cv ax ay, .int .i64 f, cv bx by', .int .i64 t] w fun e w' => e = .returned (.tuple #[.int .i64 0, .int .i64 2]) ∧ Below w.heap.size w w' := by
  obtain ⟨V, HW, x0, x1, x2, hB, -⟩ := boxes3 w #[.int .i64 W, .int .i64 H, .slice GA G.length gc, .slice PA P.length pc] 24 #[.int .i64 ax, .int .i64 ay] 113 #[.int .i64 bx, .int .i64 by'] 113
  have hg1 := (hg.below hB).more hB.size
  have hp1 := (hp.below hB).more hB.size
  have HN := Lib.hid hno
  clear hno
  go_enter Tryz.func135, Tryz.ntmps135
  go_wp2_with fail
  rw [HW.out]
  refine (obs_no W H GA PA gc pc G P ax ay f bx by' t V hg1 hp1 hgl hpl HN.out).mono ?_
  rintro e w1 ⟨OA, oc, rfl, _, hb1⟩
  go_wp2_with fail
  go_ret2
  exact ⟨rfl, after_ hB hb1⟩
set_option maxHeartbeats 4000000 in
theorem total_ok (W H : Int) (GA PA : Option Addr) (gc pc : Nat) (G P : List Int) (ax ay f bx by' t : Int) (w : World) (hg : Sl 1 icell w w.heap.size GA G) (hp : Sl 1 icell w w.heap.size PA P)
    (hok : M.okObs W H G P ax ay f bx by' t = true) : Calls Tryz.prog 135 #[tv W H GA PA G.length gc P.length pc, cv ax ay, .int .i64 f, cv bx by', .int .i64 t] w fun e w' => e = .returned (.tuple #[.int .i64 (M.tot W G ax ay f bx by' t), .int .i64 0]) ∧ Below w.heap.size w w' := by
  obtain ⟨V, HW, x0, x1, x2, hB, -⟩ := boxes3 w #[.int .i64 W, .int .i64 H, .slice GA G.length gc, .slice PA P.length pc] 24 #[.int .i64 ax, .int .i64 ay] 113 #[.int .i64 bx, .int .i64 by'] 113
  have hg1 := (hg.below hB).more hB.size
  have hp1 := (hp.below hB).more hB.size
  obtain ⟨-, -, hv, hia, hib⟩ := M.okObs_iff.1 hok
  obtain ⟨t1, t2, -⟩ := M.tvalid_iff.1 hv
  obtain ⟨a1, a2⟩ := M.c63_of t1 t2 hia
  obtain ⟨b1, b2⟩ := M.c63_of t1 t2 hib
  obtain ⟨s1, s2⟩ := M.sq_bd a1 a2 b1 b2
  have HOK := Lib.hid hok
  clear hok hv hia hib
  obtain ⟨S, hS⟩ : ∃ n : Nat, M.sq ax ay bx by' = (n : Int) := ⟨_, (Int.toNat_of_nonneg s1).symm⟩
  have HS := Lib.hid hS
  have hS2 : S ≤ 7938 := by omega
  have HT : Hid (M.tot W G ax ay f bx by' t = (M.free S : Nat) + 12 * min ((M.obst W G ax ay f bx by' t).length : Int) 5) := Lib.hid (by unfold M.tot; rw [hS, Int.toNat_natCast])
  have hfb := M.free_bd hS2
  have hol : (M.obst W G ax ay f bx by' t).length ≤ 62 := by
    have := M.span_bd a1 a2 b1 b2
    have h2 := M.obstTo_length W G ax ay f bx by' t (M.lineN ax ay bx by')
    unfold M.obst
    unfold M.lineN at h2 ⊢
    omega
  clear hS s1 s2
  go_enter Tryz.func135, Tryz.ntmps135
  go_wp2_with fail
  rw [HW.out]
  refine (obs_ok W H GA PA gc pc G P ax ay f bx by' t V hg1 hp1 HOK.out).mono ?_
  rintro e w1 ⟨OA, oc, rfl, -, hb1⟩
  have B1 := after_ hB hb1
  obtain ⟨c0, c1⟩ := (x1.below hb1).c2
  obtain ⟨d0, d1⟩ := (x2.below hb1).c2
  generalize M.obst W G ax ay f bx by' t = O at *
  go_wp2_with fail
  refine (square_ok ax ay bx by' w1 a1 a2 b1 b2).mono ?_
  rintro e w2 ⟨rfl, hb2⟩
  have B2 := after_ B1 hb2
  rw [HS.out]
  go_wp2_with fail
  refine (free_ok S w2 hS2).mono ?_
  rintro e w3 ⟨rfl, hb3⟩
  have B3 := after_ B2 hb3
  generalize M.free S = F at *
  generalize O.length = n at *
  go_wp2_with fail
  go_ret2
  exact ⟨ret_int2 (by rw [HT.out]) rfl, B3⟩
end Go.Proofs.YtciolgmljpamlaaGreatDoor
end
