/- A bundle of texts: GeF, Re7. -/
import Derived.Test.YtjoomgojnpcbeaaDoorK28
section
namespace Go.Proofs.YtjoomgojnpcbeaaDoor
namespace Ge
open Bs Dg Gh
def ltL (a b : List Nat) : Bool := decide (lexC (bsl a) (bsl b) < 0)
def above (S : List (List Nat)) (b : List Nat) : Bool := match S.getLast? with
  | none => true
  | some l => ltL l b
def under (best : Option (List Nat)) (b : List Nat) : Bool := match best with
  | none => true
  | some c => ltL b c
def selS (S : List (List Nat)) (best : Option (List Nat)) (b : List Nat) : Option (List Nat) := if above S b && under best b then some b else best
def selF (S L : List (List Nat)) : Option (List Nat) := L.foldl (selS S) none
theorem selF_snoc (S L : List (List Nat)) (b : List Nat) : selF S (L ++ [b]) = selS S (selF S L) b := by unfold selF; rw [List.foldl_append]; rfl
theorem ltL_le {a b : List Nat} : ltL a b = false ↔ leL b a := by
  unfold ltL leL
  rw [decide_eq_false_iff_not, show lexC (nz b) (nz a) = - lexC (nz a) (nz b) from lexC_swap _ _]
  show ¬ lexC (nz a) (nz b) < 0 ↔ _
  omega
theorem ltL_of {a b : List Nat} (h : ltL a b = true) : leL a b := by
  unfold ltL at h
  have := of_decide_eq_true h
  show lexC (nz a) (nz b) ≤ 0
  have h2 : lexC (nz a) (nz b) < 0 := this
  omega
theorem leL_refl (a : List Nat) : leL a a := by show lexC _ _ ≤ 0; rw [lexC_refl]; omega
theorem leL_anti {a b : List Nat} (h1 : leL a b) (h2 : leL b a) : a = b := map_inj (lexC_zero (by
  have h1 : lexC _ _ ≤ 0 := h1
  have h2 : lexC _ _ ≤ 0 := h2
  rw [lexC_swap] at h2
  omega))
theorem selF_inv (S L : List (List Nat)) : ∀ k, k ≤ L.length → (∀ m, selF S (L.take k) = some m → m ∈ L.take k ∧ above S m = true ∧ ∀ b ∈ L.take k, above S b = true → leL m b) ∧ (selF S (L.take k) = none → ∀ b ∈ L.take k, above S b = false)
  | 0, _ => ⟨fun m h => by simp [selF] at h, fun _ b hb => by simp at hb⟩
  | k + 1, hk => by
    obtain ⟨h1, h2⟩ := selF_inv S L k (by omega)
    rw [List.take_succ_eq_append_getElem (by omega), selF_snoc]
    generalize L[k] = b at *
    generalize L.take k = M at *
    unfold selS
    cases ha : above S b with
    | false =>
      refine ⟨fun m hm => ?_, fun hm c hc => ?_⟩
      · obtain ⟨q1, q2, q3⟩ := h1 m (by simpa using hm)
        refine ⟨List.mem_append_left _ q1, q2, fun c hc hca => ?_⟩
        rcases List.mem_append.1 hc with hc | hc
        · exact q3 c hc hca
        · rw [List.mem_singleton.1 hc, ha] at hca; cases hca
      · rcases List.mem_append.1 hc with hc | hc
        · exact h2 (by simpa using hm) c hc
        · rw [List.mem_singleton.1 hc, ha]
    | true =>
      cases hs : selF S M with
      | none =>
        have h3 := h2 hs
        refine ⟨fun m hm => ?_, fun hm => by simp [under] at hm⟩
        obtain rfl : b = m := by simpa [under] using hm
        refine ⟨by simp, ha, fun c hc hca => ?_⟩
        rcases List.mem_append.1 hc with hc | hc
        · rw [h3 c hc] at hca; cases hca
        · rw [List.mem_singleton.1 hc]; exact leL_refl _
      | some c =>
        obtain ⟨q1, q2, q3⟩ := h1 c hs
        show (∀ m, (if (true && ltL b c) = true then some b else some c) = some m → _) ∧ ((if (true && ltL b c) = true then some b else some c) = none → _)
        cases hl : ltL b c with
        | true =>
          refine ⟨fun m hm => ?_, fun hm => by simp at hm⟩
          obtain rfl : b = m := by simpa using hm
          refine ⟨by simp, ha, fun d hd hda => ?_⟩
          rcases List.mem_append.1 hd with hd | hd
          · exact leL_trans (ltL_of hl) (q3 d hd hda)
          · rw [List.mem_singleton.1 hd]; exact leL_refl _
        | false =>
          refine ⟨fun m hm => ?_, fun hm => by simp at hm⟩
          obtain rfl : c = m := by simpa using hm
          refine ⟨List.mem_append_left _ q1, q2, fun d hd hda => ?_⟩
          rcases List.mem_append.1 hd with hd | hd
          · exact q3 d hd hda
          · rw [List.mem_singleton.1 hd]; exact ltL_le.1 hl
theorem selF_eq {T A : List (List Nat)} (hp : A.Perm T) (hs : T.Pairwise leL) (hn : T.Nodup) {k : Nat} (hk : k < T.length) : selF (T.take k) A = some T[k] := by
  have hle : ∀ i j (hi : i < T.length) (hj : j < T.length), i ≤ j → leL T[i] T[j] := fun i j hi hj h => by
    rcases Nat.lt_or_ge i j with h | h
    · exact List.pairwise_iff_getElem.1 hs i j hi hj h
    · obtain rfl : i = j := by omega
      exact leL_refl _
  have ha : above (T.take k) T[k] = true := by
    unfold above
    cases k with
    | zero => simp
    | succ j =>
      rw [List.take_succ_eq_append_getElem (by omega), List.getLast?_concat]
      show ltL T[j] T[j + 1] = true
      cases hl : ltL T[j] T[j + 1] with
      | true => rfl
      | false =>
        have h1 := leL_anti (hle j (j + 1) (by omega) hk (by omega)) (ltL_le.1 hl)
        have h2 := List.pairwise_iff_getElem.1 hn j (j + 1) (by omega) hk (by omega)
        exact absurd h1 h2
  have hb : ∀ b ∈ T, above (T.take k) b = true → leL T[k] b := fun b hb hab => by
    obtain ⟨i, hi, rfl⟩ := List.getElem_of_mem hb
    rcases Nat.lt_or_ge i k with h | h
    · exfalso
      obtain ⟨j, rfl⟩ : ∃ j, k = j + 1 := ⟨k - 1, by omega⟩
      unfold above at hab
      rw [List.take_succ_eq_append_getElem (by omega), List.getLast?_concat] at hab
      have h3 : ltL T[j] T[i] = true := hab
      have h4 := ltL_le.2 (hle i j hi (by omega) (by omega))
      rw [h3] at h4; cases h4
    · exact hle k i hk hi h
  have inv := selF_inv (T.take k) A A.length (Nat.le_refl _)
  rw [List.take_length] at inv
  have hkA : T[k] ∈ A := hp.mem_iff.2 (List.getElem_mem hk)
  cases hc : selF (T.take k) A with
  | none =>
    have := inv.2 hc _ hkA
    rw [ha] at this; cases this
  | some m =>
    obtain ⟨q1, q2, q3⟩ := inv.1 m hc
    rw [leL_anti (q3 _ hkA ha) (hb m (hp.mem_iff.1 q1) q2)]
section
variable {n : Nat} {E : List Ed}
theorem allB_len : (allB E n).length ≤ n := by
  have h1 := flatMap_sum (fun p => dv E p.length p) (fun p => p.length) (comps E (List.range n)) (fun p hp => by
    have := dv_len (E := E) p.length p (List.nodup_range.sublist (comps_sub hp))
    omega)
  have h3 : (comps E (List.range n)).flatten.Nodup := flat_nodup (fun p hp => List.nodup_range.sublist (comps_sub hp)) comps_dis
  have h4 : (comps E (List.range n)).flatten.length ≤ (List.range n).length := nodup_le h3 (fun x hx => by
    obtain ⟨p, hp, hx⟩ := List.mem_flatten.1 hx
    exact (comps_sub hp).subset hx)
  rw [List.length_flatten, List.length_range] at h4
  exact Nat.le_trans h1 h4
theorem srtB_len : (srtB E n).length = (allB E n).length := (isort_perm _).length_eq
theorem cnt_le (F : List (List Nat)) (j : Nat) : cnt F j ≤ F.length := List.length_filter_le _ _
theorem cutB_snoc (k : Nat) : cutB E n (k + 1) = if 2 ≤ cnt (srtB E n) k then cutB E n k ++ [k] else cutB E n k := by
  unfold cutB
  rw [List.range_succ, List.filter_append]
  split
  · next h => simp [h]
  · next h => simp [h]
theorem cutB_len (k : Nat) : (cutB E n k).length ≤ k := Nat.le_trans (List.length_filter_le _ _) (by simp)
end
end Ge
end Go.Proofs.YtjoomgojnpcbeaaDoor
end

section
namespace Go.Proofs.YtjoomgojnpcbeaaDoor
open Go Go.RowKit Gh
set_option maxRecDepth 100000
theorem LI.ll {W : World} {base : Nat} {A : Option Addr} {c : Nat} {ls : List SLc} (h : LI W base (.slice A ls.length c) ls) : LL W A ls := ⟨Sl.of_own (by decide) h.outer, fun s hs => Sl.of_own (by decide) (h.inner s hs)⟩
theorem LI.push {W W' : World} {base : Nat} {v v' : Value} {ls : List SLc} {s : SLc} (h : LI W base v ls) (hi : W.ownsRow 0 3 1 (.slice s.A s.xs.length s.c) s.xs.length (flat 1 icell s.xs)) (ho : W'.ownsRow base 31 1 v' (ls.length + 1) (flat 1 slcell (ls ++ [s]))) (hg : W.grownBy W' v.ownBlock) : LI W' base v' (ls ++ [s]) :=
  h.app (fun t ht => by rw [List.mem_singleton.1 ht]; exact hi) ho hg
set_option maxHeartbeats 64000000 in
theorem rBlocks_ok (n : Nat) (EA : Option Addr) (ec : Nat) (E : List Ge.Ed) (w : World) (hE : Sl 2 ecell w w.heap.size EA E) (hEl : E.length ≤ 1000000) (hn : n ≤ 512) (hT : (Ge.srtB E n).Nodup) (hne : ∀ b ∈ Ge.allB E n, b ≠ [] ∧ b.length ≤ 512) :
    Calls Tryd.prog 18 #[.int .i64 n, .slice EA E.length ec] w fun e w' => ∃ A c ls CA cc, e = .returned (.tuple #[.slice A ls.length c, .slice CA (Ge.cutB E n n).length cc]) ∧ LL w' A ls ∧ ls.map (·.xs) = (Ge.srtB E n).map bsl ∧ Sl 1 icell w' w'.heap.size CA (bsl (Ge.cutB E n n)) ∧ Below w.heap.size w w' := by
  obtain ⟨i0, hi, hz0, hz1, hz2⟩ := info_parts intInfoD
  have Hi := Lib.hid hi; have Hz0 := Lib.hid hz0; have Hz1 := Lib.hid hz1; have Hz2 := Lib.hid hz2
  obtain ⟨il, hil, hzl0, hzl1, hzl2⟩ := info_parts slInfo
  have Hil := Lib.hid hil; have Hzl0 := Lib.hid hzl0; have Hzl1 := Lib.hid hzl1; have Hzl2 := Lib.hid hzl2
  clear hi hz0 hz1 hz2 hil hzl0 hzl1 hzl2
  have HNE := Lib.hid hne
  have HT := Lib.hid hT
  clear hne hT
  have kA := rAll_ok n w (by omega)
  go_enter Tryd.func18, Tryd.ntmps18
  go_wp2_with fail
  refine kA.mono ?_
  rintro e w1 ⟨AA, ac, rfl, ownA, hb1⟩
  have hrl : (List.range n).length = n := List.length_range
  have hrn : (List.range n).Nodup := List.nodup_range
  have HRN := Lib.hid hrn
  have HAB : Hid ((Ge.comps E (List.range n)).flatMap (fun p => Ge.dv E p.length p) = Ge.allB E n) := Lib.hid rfl
  have hrl2 : (List.range n).length ≤ 512 := by omega
  clear hrn
  generalize List.range n = rn at *
  have HRL := Lib.hid hrl
  clear hrl
  have kC := rComps_ok EA ec E AA ac rn w1 ((hE.below hb1).more hb1.size) hEl (own_sl ownA) (by omega)
  clear kA
  go_wp2_with fail
  refine kC.mono ?_
  rintro e w2 ⟨vP, ps, rfl, loP, hps, hb2⟩
  have hB2 := after_ hb1 hb2
  have HPS := Lib.hid hps
  have hpl : ps.length = (Ge.comps E rn).length := by
    have := congrArg List.length hps
    rw [List.length_map, List.length_map] at this
    exact this
  have hpl2 : ps.length ≤ 512 := by
    have := (Ge.compF_len (E := E) (vs := rn) rn.length (Nat.le_refl _)).1
    rw [List.take_length] at this
    have h4 : (Ge.comps E rn).length ≤ rn.length := this
    omega
  obtain ⟨PA, pc, rfl, hPo⟩ := own_slice (by decide) loP.outer
  have HPL := Lib.hid hpl
  have HCS : Hid (∀ p ∈ Ge.comps E rn, p.Nodup ∧ p.length ≤ 512) := Lib.hid (fun p hp => ⟨HRN.out.sublist (Ge.comps_sub hp), by have := (Ge.comps_sub hp).length_le; omega⟩)
  have hAl : (Ge.allB E n).length ≤ n := Ge.allB_len
  have HFM : Hid (∀ q, (((Ge.comps E rn).take q).flatMap (fun p => Ge.dv E p.length p)).length ≤ n) := Lib.hid (fun q => Nat.le_trans (Ge.fm_len _ _ q) (by rw [HAB.out]; exact hAl))
  clear kC hps hpl ownA hb1 hb2
  generalize Ge.comps E rn = cs at *
  go_wp2_with fail
  refine wp_loop_mrg [6, 8, 20, 21, 22, 23, 24, 25, 26, 27, 28, 29, 30, 31, 32, 33] (fun mm f0 ds W1 => ds = [] ∧ ∃ (q : Nat) (ls : List SLc), f0 8 = .int .i64 q ∧ ps.length - q = mm ∧ q ≤ ps.length ∧ Below w2.heap.size w2 W1 ∧ LI W1 w2.heap.size (f0 6) ls ∧ Hid (ls.map (·.xs) = ((cs.take q).flatMap fun p => Ge.dv E p.length p).map bsl)) ps.length ⟨rfl, 0, [], rfl, rfl, Nat.zero_le _, Below.refl _ _, LI.none_ _ _, Lib.hid rfl⟩ ?_
  intro c1' T1' hc2 hT2
  rintro mm f0 ds W1 ⟨rfl, q, ls, hf8, rfl, hq, hB1, li, HLS⟩
  replace hc2 := hc2.out
  subst hc2
  replace hT2 := hT2.out
  subst hT2
  generalize hF : mrgF _ 0 _ _ = F
  simp only [mrg_hit, mrg_miss, mrg_end, Nat.reduceBEq, Nat.reduceAdd] at hF
  rw [hf8] at hF
  subst hF
  clear hf8
  generalize f0 6 = vO at *
  have hW1 := hB2.trans (hB1.mono hB2.size)
  by_cases hql : q < ps.length
  · have y0 : (0 : Int) ≤ (q : Int) := by omega
    have y1 : (q : Int) < (ps.length : Int) := by omega
    have q1 : decide ((q : Int) < (ps.length : Int)) = true := decide_eq_true y1
    have hqc : q < cs.length := by have := HPL.out; omega
    have HNX : Hid ((cs.take (q + 1)).flatMap (fun p => Ge.dv E p.length p) = ((cs.take q).flatMap fun p => Ge.dv E p.length p) ++ Ge.dv E cs[q].length cs[q]) := Lib.hid (by rw [List.take_succ_eq_append_getElem hqc, List.flatMap_append]; simp)
    have hxs : ps[q].xs = bsl cs[q] := by
      have h1 : (ps.map (·.xs))[q]? = (cs.map bsl)[q]? := by rw [HPS.out]
      rw [List.getElem?_map, List.getElem?_map, List.getElem?_eq_getElem hql, List.getElem?_eq_getElem hqc] at h1
      exact Option.some.inj h1
    have hfm := HFM.out (q + 1)
    rw [HNX.out, List.length_append] at hfm
    have hlsl : ls.length = ((cs.take q).flatMap fun p => Ge.dv E p.length p).length := by
      have := congrArg List.length HLS.out
      rw [List.length_map, List.length_map] at this
      exact this
    have hPq := loP.inner _ (List.getElem_mem hql)
    obtain ⟨lp, hlp, hlpb, p0⟩ := ((hPo.below hB1).more (B' := W1.heap.size) hB1.size).one_at hql
    obtain ⟨hpn, hpln⟩ := HCS.out _ (List.getElem_mem hqc)
    generalize ps[q] = sp at *
    obtain ⟨pA, pcc, pxs⟩ := sp
    dsimp only at hxs
    subst hxs
    simp only [slcell, bsl_len] at p0
    dsimp only at hPq
    rw [bsl_len] at hPq
    generalize cs[q] = p at *
    have kD := rDivide_ok EA ec E hEl p.length pA pcc p W1 ((hE.below hW1).more hW1.size) (own_base (own_below hPq hB1) (Nat.zero_le _)) hpn (Nat.le_refl _) hpln
    clear hpn
    subst hlp
    go_wp2_with fail
    refine kD.mono ?_
    rintro e w5 ⟨vD, ls2, rfl, liD, hls2, hb5⟩
    have hB5 := after_ hB1 hb5
    have li5 := li.below hb5
    have hl2 : ls2.length = (Ge.dv E p.length p).length := by
      have := congrArg List.length hls2
      rw [List.length_map, List.length_map] at this
      exact this
    have hsum : ls.length + ls2.length ≤ 512 := by omega
    have HL7 : Hid ((ls ++ ls2).map (·.xs) = ((cs.take (q + 1)).flatMap fun p => Ge.dv E p.length p).map bsl) := Lib.hid (by rw [HNX.out, List.map_append, List.map_append, HLS.out, hls2])
    obtain ⟨DA, dc, rfl, hD⟩ := liD.sl_
    have hDi := Lib.hid liD.inner
    clear kD hls2 hl2 hfm hlsl HNX HLS liD
    go_wp2_with (at_builtin; go_loud (
      refine wpList_append_sl _ (w0 := w2) (cell := slcell) rfl _ _ _ rfl w2.heap.size w2.heap.size 31 il _ 24 Tryd.underlying28 Hil.out Hzl0.out Hzl1.out Hzl2.out rfl (by decide) _ ls.length ls rfl li5.outer w5.heap.size DA dc ls2 rfl hD (fun y j => sl_one y j) (by unfold maxLen; omega) (by omega) hB5.size (Nat.le_refl _) hB5 ?_
      intro v7 w7 hown7 hb7 hg7))
    have li7 := li5.app hDi.out hown7 hg7
    exact ⟨_, rfl, rfl, ps.length - (q + 1), by omega, by trivial, q + 1, ls ++ ls2, rfl, rfl, hql, hb7, li7, HL7⟩
  obtain rfl : q = ps.length := by omega
  have q1 : decide ((ps.length : Int) < (ps.length : Int)) = false := decide_eq_false (by omega)
  have HLB : Hid (ls.map (·.xs) = (Ge.allB E n).map bsl) := Lib.hid (by rw [HLS.out, HPL.out, List.take_length, HAB.out])
  have hll : ls.length = (Ge.allB E n).length := by
    have := congrArg List.length HLB.out
    rw [List.length_map, List.length_map] at this
    exact this
  have HLL := Lib.hid hll
  have hln : ls.length ≤ 512 := by omega
  obtain ⟨OA, oc, rfl, hO⟩ := li.sl_
  clear hll HLS
  obtain ⟨w3, hw3⟩ : ∃ w3, w3 = W1 := ⟨_, rfl⟩
  subst hw3
  go_wp2_with fail
  refine wp_loop_mrg [9, 10, 11, 34, 35, 36, 37, 38, 39, 40, 41, 42, 43, 44, 45, 46, 47, 48, 49, 50, 51, 52, 53, 54, 55, 56, 57, 58, 59, 60, 61, 62, 63, 64, 65, 66, 67, 68, 69, 70, 71, 72, 73, 74, 75, 76, 77, 78, 79, 80] (fun mm f0 ds W2 => ds = [] ∧ ∃ (ss : List SLc), ls.length - ss.length = mm ∧ ss.length ≤ ls.length ∧ Below w3.heap.size w3 W2 ∧ LI W2 w3.heap.size (f0 9) ss ∧ Hid (ss.map (·.xs) = ((Ge.srtB E n).take ss.length).map bsl)) ls.length ⟨rfl, [], rfl, Nat.zero_le _, Below.refl _ _, LI.none_ _ _, Lib.hid rfl⟩ ?_
  intro c2' T2' hc2 hT2
  rintro mm f0 ds W2 ⟨rfl, ss, rfl, hss, hB2', li2, HSS⟩
  replace hc2 := hc2.out
  subst hc2
  replace hT2 := hT2.out
  subst hT2
  generalize hF : mrgF _ 0 _ _ = F
  simp only [mrg_hit, mrg_miss, mrg_end, Nat.reduceBEq, Nat.reduceAdd] at hF
  subst hF
  generalize f0 9 = vS at *
  obtain ⟨SA, sc, rfl, hSo⟩ := li2.sl_
  by_cases hsl : ss.length < ls.length
  · have q2 : decide ((ss.length : Int) < (ls.length : Int)) = true := decide_eq_true (by omega)
    go_wp2_with fail
    refine wp_loop_mrg [10, 11, 39, 40, 41, 42, 43, 44, 45, 46, 47, 48, 49, 50, 51, 52, 53, 54, 55, 56, 57, 58, 59, 60, 61, 62, 63, 64, 65, 66, 67, 68, 69, 70, 71, 72, 73, 74, 75, 76] (fun mm f0 ds W3 => ds = [] ∧ ∃ (i : Nat), f0 11 = .int .i64 i ∧ ls.length - i = mm ∧ i ≤ ls.length ∧ Below W2.heap.size W2 W3 ∧ Hid ((f0 10 = .slice none 0 0 ∧ Ge.selF ((Ge.srtB E n).take ss.length) ((Ge.allB E n).take i) = none) ∨ ∃ (s : SLc) (b : List Nat), s ∈ ls ∧ s.xs = bsl b ∧ b ∈ Ge.allB E n ∧ f0 10 = .slice s.A s.xs.length s.c ∧ Ge.selF ((Ge.srtB E n).take ss.length) ((Ge.allB E n).take i) = some b)) ls.length ⟨rfl, 0, rfl, rfl, Nat.zero_le _, Below.refl _ _, Lib.hid (.inl ⟨rfl, rfl⟩)⟩ ?_
    intro c3' T3' hc2 hT2
    rintro mm f0 ds W3 ⟨rfl, i, hf11, rfl, hi, hB3', HBE⟩
    replace hc2 := hc2.out
    subst hc2
    replace hT2 := hT2.out
    subst hT2
    generalize hF : mrgF _ 0 _ _ = F
    simp only [mrg_hit, mrg_miss, mrg_end, Nat.reduceBEq, Nat.reduceAdd] at hF
    rw [hf11] at hF
    subst hF
    clear hf11
    generalize f0 10 = vB at *
    have hB13 := hB2'.trans (hB3'.mono hB2'.size)
    have hW3 := hW1.trans (hB13.mono hW1.size)
    have HIN : Hid (∀ s ∈ ls, Sl 1 icell W3 W3.heap.size s.A s.xs) := Lib.hid (fun s hs => ((Sl.of_own (by decide) (li.inner s hs)).below hB13).more hB13.size)
    have q22 : ∀ (w : World) (a : Option Addr) (n c n' c' : Nat), (binOp .eql 31 (.slice a n c) (.slice none n' c')).run Tryd.prog w = .ok (.bool a.isNone) w := fun w a n c n' c' => Lib.run_eql_slice_nil w _ _ a n c n' c' Tryd.underlying31
    by_cases hil : i < ls.length
    · have y0 : (0 : Int) ≤ (i : Int) := by omega
      have y1 : (i : Int) < (ls.length : Int) := by omega
      have q3 : decide ((i : Int) < (ls.length : Int)) = true := decide_eq_true y1
      have hia : i < (Ge.allB E n).length := by have := HLL.out; omega
      have HNX : Hid (Ge.selF ((Ge.srtB E n).take ss.length) ((Ge.allB E n).take (i + 1)) = Ge.selS ((Ge.srtB E n).take ss.length) (Ge.selF ((Ge.srtB E n).take ss.length) ((Ge.allB E n).take i)) (Ge.allB E n)[i]) := Lib.hid (by rw [List.take_succ_eq_append_getElem hia, Ge.selF_snoc])
      have hxs : ls[i].xs = bsl (Ge.allB E n)[i] := by
        have h1 : (ls.map (·.xs))[i]? = ((Ge.allB E n).map bsl)[i]? := by rw [HLB.out]
        rw [List.getElem?_map, List.getElem?_map, List.getElem?_eq_getElem hil, List.getElem?_eq_getElem hia] at h1
        exact Option.some.inj h1
      have HMI0 := Lib.hid (List.getElem_mem hil)
      have HAI := Lib.hid (List.getElem_mem hia)
      have hbil := (HNE.out _ HAI.out).2
      have hin1 := HIN.out _ HMI0.out
      obtain ⟨lo, hlo, hlob, o0⟩ := ((hO.below hB13).more (B' := W3.heap.size) hB13.size).one_at hil
      generalize ls[i] = si at *
      obtain ⟨iA, ic, ixs⟩ := si
      dsimp only at hxs
      subst hxs
      simp only [slcell] at o0
      dsimp only at hin1
      have HMI := HMI0
      clear HMI0
      generalize (Ge.allB E n)[i] = bi at *
      subst hlo
      have hund : undef = Value.tuple #[] := rfl
      by_cases hz : ss.length = 0
      · have qz : ((ss.length : Int) == 0) = true := by simp [hz]
        have HAbv : Hid (Ge.above ((Ge.srtB E n).take ss.length) bi = true) := Lib.hid (by rw [hz]; rfl)
        clear hz
        rcases HBE.out with ⟨rfl, hse⟩ | ⟨s, b, hsm, hsx, hbm, rfl, hse⟩
        · have HSEL : Hid (Ge.selF ((Ge.srtB E n).take ss.length) ((Ge.allB E n).take (i + 1)) = some bi) := Lib.hid (by rw [HNX.out, hse]; unfold Ge.selS; rw [HAbv.out]; rfl)
          clear hse HBE HNX
          go_wp2_with fail
          refine wp_region_kept W3.heap.size W3 (by kernel_rfl) (by kernel_rfl) (Below.refl _ _) ?_
          repeat (go_big_quiet_step (fail))
          refine wpQuiet_nil ?_
          rintro w5 ⟨⟨w5x, hb5⟩, hw5⟩
          dsimp only at hw5
          subst hw5
          have hB5 := after_ hB3' hb5
          have o5 : w5.cell? (lo.add i) = some (.slice iA (bsl bi).length ic) := by rw [hb5.cell hlob]; exact o0
          have HH : Hid ((Value.slice iA (bsl bi).length ic = .slice none 0 0 ∧ Ge.selF ((Ge.srtB E n).take ss.length) ((Ge.allB E n).take (i + 1)) = none) ∨ ∃ (s : SLc) (b : List Nat), s ∈ ls ∧ s.xs = bsl b ∧ b ∈ Ge.allB E n ∧ Value.slice iA (bsl bi).length ic = .slice s.A s.xs.length s.c ∧ Ge.selF ((Ge.srtB E n).take ss.length) ((Ge.allB E n).take (i + 1)) = some b) := Lib.hid (.inr ⟨⟨iA, ic, bsl bi⟩, bi, HMI.out, rfl, HAI.out, rfl, HSEL.out⟩)
          clear o0
          go_wp2_with fail
          first
            | exact ⟨_, rfl, rfl, ls.length - (i + 1), by omega, by trivial, i + 1, rfl, rfl, hil, hB5, HH⟩
            | exact ⟨rfl, ls.length - (i + 1), by omega, i + 1, rfl, rfl, hil, HH⟩
        · obtain ⟨sA, scc, sxs⟩ := s
          dsimp only at hsx
          subst hsx
          have hin3 := HIN.out _ hsm
          dsimp only at hin3
          have hb0 := (HNE.out b hbm)
          obtain ⟨sa2, hsa2, -, -⟩ := hin3.one_at (k := 0) (by rw [bsl_len]; exact List.length_pos_iff.2 hb0.1)
          obtain ⟨r2, hr2⟩ : ∃ r2, Ge.ltL bi b = r2 := ⟨_, rfl⟩
          have k2 := fun (u : Kept W3.heap.size W3) => rLess_ok iA sA ic scc (bsl bi) (bsl b) u.val ((hin1.below u.h).more u.h.size) ((hin3.below u.h).more u.h.size) (by rw [bsl_len]; omega)
          rw [show decide (lexC (bsl bi) (bsl b) < 0) = r2 from hr2] at k2
          have KL2 := Lib.hid k2
          have HR2 := Lib.hid hr2
          have HSM := Lib.hid hsm
          have HBM := Lib.hid hbm
          clear hr2 k2 hsm hbm hin3 hb0
          subst hsa2
          cases r2 with
          | true =>
            have HSEL : Hid (Ge.selF ((Ge.srtB E n).take ss.length) ((Ge.allB E n).take (i + 1)) = some bi) := Lib.hid (by rw [HNX.out, hse]; unfold Ge.selS; rw [HAbv.out]; show (if (true && Ge.ltL bi b) = true then _ else _) = _; rw [HR2.out]; rfl)
            clear hse HBE HNX HR2
            go_wp2_with fail
            refine wp_region_kept W3.heap.size W3 (by kernel_rfl) (by kernel_rfl) (Below.refl _ _) ?_
            repeat (go_big_quiet_step ((go_at_call 51; first | (with_reducible exact Kept.calls (Nat.le_refl _) (KL2.out _)))))
            refine wpQuiet_nil ?_
            rintro w5 ⟨⟨w5x, hb5⟩, hw5⟩
            dsimp only at hw5
            subst hw5
            have hB5 := after_ hB3' hb5
            have o5 : w5.cell? (lo.add i) = some (.slice iA (bsl bi).length ic) := by rw [hb5.cell hlob]; exact o0
            have HH : Hid ((Value.slice iA (bsl bi).length ic = .slice none 0 0 ∧ Ge.selF ((Ge.srtB E n).take ss.length) ((Ge.allB E n).take (i + 1)) = none) ∨ ∃ (s : SLc) (b : List Nat), s ∈ ls ∧ s.xs = bsl b ∧ b ∈ Ge.allB E n ∧ Value.slice iA (bsl bi).length ic = .slice s.A s.xs.length s.c ∧ Ge.selF ((Ge.srtB E n).take ss.length) ((Ge.allB E n).take (i + 1)) = some b) := Lib.hid (.inr ⟨⟨iA, ic, bsl bi⟩, bi, HMI.out, rfl, HAI.out, rfl, HSEL.out⟩)
            clear o0
            go_wp2_with fail
            first
              | exact ⟨_, rfl, rfl, ls.length - (i + 1), by omega, by trivial, i + 1, rfl, rfl, hil, hB5, HH⟩
              | exact ⟨rfl, ls.length - (i + 1), by omega, i + 1, rfl, rfl, hil, HH⟩
          | false =>
            have HSEL : Hid (Ge.selF ((Ge.srtB E n).take ss.length) ((Ge.allB E n).take (i + 1)) = some b) := Lib.hid (by rw [HNX.out, hse]; unfold Ge.selS; rw [HAbv.out]; show (if (true && Ge.ltL bi b) = true then _ else _) = _; rw [HR2.out]; rfl)
            clear hse HBE HNX HR2
            go_wp2_with fail
            refine wp_region_kept W3.heap.size W3 (by kernel_rfl) (by kernel_rfl) (Below.refl _ _) ?_
            repeat (go_big_quiet_step ((go_at_call 51; first | (with_reducible exact Kept.calls (Nat.le_refl _) (KL2.out _)))))
            refine wpQuiet_nil ?_
            rintro w5 ⟨⟨w5x, hb5⟩, hw5⟩
            dsimp only at hw5
            subst hw5
            have hB5 := after_ hB3' hb5
            go_wp2_with fail
            first
              | exact ⟨_, rfl, rfl, ls.length - (i + 1), by omega, by trivial, i + 1, rfl, rfl, hil, hB5, Lib.hid (.inr ⟨⟨some sa2, scc, bsl b⟩, b, HSM.out, rfl, HBM.out, rfl, HSEL.out⟩)⟩
              | exact ⟨rfl, ls.length - (i + 1), by omega, i + 1, rfl, rfl, hil, Lib.hid (.inr ⟨⟨some sa2, scc, bsl b⟩, b, HSM.out, rfl, HBM.out, rfl, HSEL.out⟩)⟩
      · obtain ⟨m, hm⟩ : ∃ m, ss.length = m + 1 := ⟨ss.length - 1, by omega⟩
        have qz : ((ss.length : Int) == 0) = false := by simp [hz]
        have hx1 : (ss.length : Int) - 1 = (m : Int) := by omega
        have x3 : (0 : Int) ≤ (m : Int) := by omega
        have x4 : (m : Int) < (ss.length : Int) := by omega
        have hms : m < ss.length := by omega
        have hmT : m < (Ge.srtB E n).length := by have := HLL.out; rw [Ge.srtB_len]; omega
        have hmx : ss[m].xs = bsl (Ge.srtB E n)[m] := by
          have h1 : (ss.map (·.xs))[m]? = (((Ge.srtB E n).take ss.length).map bsl)[m]? := by rw [HSS.out]
          rw [List.getElem?_map, List.getElem?_map, List.getElem?_take_of_lt hms, List.getElem?_eq_getElem hms, List.getElem?_eq_getElem hmT] at h1
          exact Option.some.inj h1
        have habv : Ge.above ((Ge.srtB E n).take ss.length) bi = Ge.ltL (Ge.srtB E n)[m] bi := by
          unfold Ge.above
          rw [hm, List.take_succ_eq_append_getElem hmT, List.getLast?_concat]
        have hmb := (HNE.out (Ge.srtB E n)[m] ((isort_perm _).mem_iff.1 (List.getElem_mem hmT))).2
        have hin2 := ((Sl.of_own (by decide) (li2.inner _ (List.getElem_mem hms))).below hB3').more (B' := W3.heap.size) hB3'.size
        obtain ⟨sa, hsa, hsab, s0⟩ := ((hSo.below hB3').more (B' := W3.heap.size) hB3'.size).one_at hms
        generalize ss[m] = sm at *
        obtain ⟨mA, mc, mxs⟩ := sm
        dsimp only at hmx
        subst hmx
        simp only [slcell] at s0
        dsimp only at hin2
        generalize (Ge.srtB E n)[m] = lm at *
        obtain ⟨r1, hr1⟩ : ∃ r1, Ge.ltL lm bi = r1 := ⟨_, rfl⟩
        have k1 := fun (u : Kept W3.heap.size W3) => rLess_ok mA iA mc ic (bsl lm) (bsl bi) u.val ((hin2.below u.h).more u.h.size) ((hin1.below u.h).more u.h.size) (by rw [bsl_len]; omega)
        rw [show decide (lexC (bsl lm) (bsl bi) < 0) = r1 from hr1] at k1
        rw [hr1] at habv
        have KL1 := Lib.hid k1
        have HAbv := Lib.hid habv
        clear hr1 k1 habv hm hz hms hmT hin2
        subst hsa
        cases r1 with
        | false =>
          have HSEL : Hid (Ge.selF ((Ge.srtB E n).take ss.length) ((Ge.allB E n).take (i + 1)) = Ge.selF ((Ge.srtB E n).take ss.length) ((Ge.allB E n).take i)) := Lib.hid (by rw [HNX.out]; unfold Ge.selS; rw [HAbv.out]; rfl)
          have HH : Hid ((vB = .slice none 0 0 ∧ Ge.selF ((Ge.srtB E n).take ss.length) ((Ge.allB E n).take (i + 1)) = none) ∨ ∃ (s : SLc) (b : List Nat), s ∈ ls ∧ s.xs = bsl b ∧ b ∈ Ge.allB E n ∧ vB = .slice s.A s.xs.length s.c ∧ Ge.selF ((Ge.srtB E n).take ss.length) ((Ge.allB E n).take (i + 1)) = some b) := Lib.hid (by rw [HSEL.out]; exact HBE.out)
          clear HBE HNX HSEL
          go_wp2_with fail
          refine wp_region_kept W3.heap.size W3 (by kernel_rfl) (by kernel_rfl) (Below.refl _ _) ?_
          repeat (go_big_quiet_step ((go_at_call 51; first | (with_reducible exact Kept.calls (Nat.le_refl _) (KL1.out _)))))
          refine wpQuiet_nil ?_
          rintro w5 ⟨⟨w5x, hb5⟩, hw5⟩
          dsimp only at hw5
          subst hw5
          have hB5 := after_ hB3' hb5
          go_wp2_with fail
          first
            | exact ⟨_, rfl, rfl, ls.length - (i + 1), by omega, by trivial, i + 1, rfl, rfl, hil, hB5, HH⟩
            | exact ⟨rfl, ls.length - (i + 1), by omega, i + 1, rfl, rfl, hil, HH⟩
        | true =>
          rcases HBE.out with ⟨rfl, hse⟩ | ⟨s, b, hsm, hsx, hbm, rfl, hse⟩
          · have HSEL : Hid (Ge.selF ((Ge.srtB E n).take ss.length) ((Ge.allB E n).take (i + 1)) = some bi) := Lib.hid (by rw [HNX.out, hse]; unfold Ge.selS; rw [HAbv.out]; rfl)
            clear hse HBE HNX
            go_wp2_with fail
            refine wp_region_kept W3.heap.size W3 (by kernel_rfl) (by kernel_rfl) (Below.refl _ _) ?_
            repeat (go_big_quiet_step ((go_at_call 51; first | (with_reducible exact Kept.calls (Nat.le_refl _) (KL1.out _)))))
            refine wpQuiet_nil ?_
            rintro w5 ⟨⟨w5x, hb5⟩, hw5⟩
            dsimp only at hw5
            subst hw5
            have hB5 := after_ hB3' hb5
            have o5 : w5.cell? (lo.add i) = some (.slice iA (bsl bi).length ic) := by rw [hb5.cell hlob]; exact o0
            have HH : Hid ((Value.slice iA (bsl bi).length ic = .slice none 0 0 ∧ Ge.selF ((Ge.srtB E n).take ss.length) ((Ge.allB E n).take (i + 1)) = none) ∨ ∃ (s : SLc) (b : List Nat), s ∈ ls ∧ s.xs = bsl b ∧ b ∈ Ge.allB E n ∧ Value.slice iA (bsl bi).length ic = .slice s.A s.xs.length s.c ∧ Ge.selF ((Ge.srtB E n).take ss.length) ((Ge.allB E n).take (i + 1)) = some b) := Lib.hid (.inr ⟨⟨iA, ic, bsl bi⟩, bi, HMI.out, rfl, HAI.out, rfl, HSEL.out⟩)
            clear o0
            go_wp2_with fail
            first
              | exact ⟨_, rfl, rfl, ls.length - (i + 1), by omega, by trivial, i + 1, rfl, rfl, hil, hB5, HH⟩
              | exact ⟨rfl, ls.length - (i + 1), by omega, i + 1, rfl, rfl, hil, HH⟩
          · obtain ⟨sA, scc, sxs⟩ := s
            dsimp only at hsx
            subst hsx
            have hin3 := HIN.out _ hsm
            dsimp only at hin3
            have hb0 := (HNE.out b hbm)
            obtain ⟨sa2, hsa2, -, -⟩ := hin3.one_at (k := 0) (by rw [bsl_len]; exact List.length_pos_iff.2 hb0.1)
            obtain ⟨r2, hr2⟩ : ∃ r2, Ge.ltL bi b = r2 := ⟨_, rfl⟩
            have k2 := fun (u : Kept W3.heap.size W3) => rLess_ok iA sA ic scc (bsl bi) (bsl b) u.val ((hin1.below u.h).more u.h.size) ((hin3.below u.h).more u.h.size) (by rw [bsl_len]; omega)
            rw [show decide (lexC (bsl bi) (bsl b) < 0) = r2 from hr2] at k2
            have KL2 := Lib.hid k2
            have HR2 := Lib.hid hr2
            have HSM := Lib.hid hsm
            have HBM := Lib.hid hbm
            clear hr2 k2 hsm hbm hin3 hb0
            subst hsa2
            cases r2 with
            | true =>
              have HSEL : Hid (Ge.selF ((Ge.srtB E n).take ss.length) ((Ge.allB E n).take (i + 1)) = some bi) := Lib.hid (by rw [HNX.out, hse]; unfold Ge.selS; rw [HAbv.out]; show (if (true && Ge.ltL bi b) = true then _ else _) = _; rw [HR2.out]; rfl)
              clear hse HBE HNX HR2
              go_wp2_with fail
              refine wp_region_kept W3.heap.size W3 (by kernel_rfl) (by kernel_rfl) (Below.refl _ _) ?_
              repeat (go_big_quiet_step ((go_at_call 51; first | (with_reducible exact Kept.calls (Nat.le_refl _) (KL1.out _)) | (with_reducible exact Kept.calls (Nat.le_refl _) (KL2.out _)))))
              refine wpQuiet_nil ?_
              rintro w5 ⟨⟨w5x, hb5⟩, hw5⟩
              dsimp only at hw5
              subst hw5
              have hB5 := after_ hB3' hb5
              have o5 : w5.cell? (lo.add i) = some (.slice iA (bsl bi).length ic) := by rw [hb5.cell hlob]; exact o0
              have HH : Hid ((Value.slice iA (bsl bi).length ic = .slice none 0 0 ∧ Ge.selF ((Ge.srtB E n).take ss.length) ((Ge.allB E n).take (i + 1)) = none) ∨ ∃ (s : SLc) (b : List Nat), s ∈ ls ∧ s.xs = bsl b ∧ b ∈ Ge.allB E n ∧ Value.slice iA (bsl bi).length ic = .slice s.A s.xs.length s.c ∧ Ge.selF ((Ge.srtB E n).take ss.length) ((Ge.allB E n).take (i + 1)) = some b) := Lib.hid (.inr ⟨⟨iA, ic, bsl bi⟩, bi, HMI.out, rfl, HAI.out, rfl, HSEL.out⟩)
              clear o0
              go_wp2_with fail
              first
                | exact ⟨_, rfl, rfl, ls.length - (i + 1), by omega, by trivial, i + 1, rfl, rfl, hil, hB5, HH⟩
                | exact ⟨rfl, ls.length - (i + 1), by omega, i + 1, rfl, rfl, hil, HH⟩
            | false =>
              have HSEL : Hid (Ge.selF ((Ge.srtB E n).take ss.length) ((Ge.allB E n).take (i + 1)) = some b) := Lib.hid (by rw [HNX.out, hse]; unfold Ge.selS; rw [HAbv.out]; show (if (true && Ge.ltL bi b) = true then _ else _) = _; rw [HR2.out]; rfl)
              clear hse HBE HNX HR2
              go_wp2_with fail
              refine wp_region_kept W3.heap.size W3 (by kernel_rfl) (by kernel_rfl) (Below.refl _ _) ?_
              repeat (go_big_quiet_step ((go_at_call 51; first | (with_reducible exact Kept.calls (Nat.le_refl _) (KL1.out _)) | (with_reducible exact Kept.calls (Nat.le_refl _) (KL2.out _)))))
              refine wpQuiet_nil ?_
              rintro w5 ⟨⟨w5x, hb5⟩, hw5⟩
              dsimp only at hw5
              subst hw5
              have hB5 := after_ hB3' hb5
              go_wp2_with fail
              first
                | exact ⟨_, rfl, rfl, ls.length - (i + 1), by omega, by trivial, i + 1, rfl, rfl, hil, hB5, Lib.hid (.inr ⟨⟨some sa2, scc, bsl b⟩, b, HSM.out, rfl, HBM.out, rfl, HSEL.out⟩)⟩
                | exact ⟨rfl, ls.length - (i + 1), by omega, i + 1, rfl, rfl, hil, Lib.hid (.inr ⟨⟨some sa2, scc, bsl b⟩, b, HSM.out, rfl, HBM.out, rfl, HSEL.out⟩)⟩
    · obtain rfl : i = ls.length := by omega
      have q3 : decide ((ls.length : Int) < (ls.length : Int)) = false := decide_eq_false (by omega)
      have hkT : ss.length < (Ge.srtB E n).length := by have := HLL.out; rw [Ge.srtB_len]; omega
      have hse := Ge.selF_eq (T := Ge.srtB E n) (A := Ge.allB E n) (isort_perm (Ge.allB E n)).symm (isort_sorted _) HT.out hkT
      have HBF : Hid (∃ (s : SLc) (b : List Nat), s ∈ ls ∧ s.xs = bsl b ∧ vB = .slice s.A s.xs.length s.c ∧ (Ge.srtB E n)[ss.length] = b) := Lib.hid (by
        rcases HBE.out with ⟨_, h⟩ | ⟨s, b, h1, h2, _, h3, h4⟩
        · rw [HLL.out, List.take_length, hse] at h; cases h
        · rw [HLL.out, List.take_length, hse] at h4; exact ⟨s, b, h1, h2, h3, Option.some.inj h4⟩)
      obtain ⟨s, b, hsm, hsx, rfl, hbT⟩ := HBF.out
      have hin := own_below (li.inner s hsm) hB13
      have HS9 : Hid ((ss ++ [s]).map (·.xs) = ((Ge.srtB E n).take (ss.length + 1)).map bsl) := Lib.hid (by rw [List.take_succ_eq_append_getElem hkT, List.map_append, List.map_append, HSS.out, hbT]; simp [hsx])
      obtain ⟨sA, scc, sxs⟩ := s
      dsimp only at hsx
      subst hsx
      dsimp only at hin
      have li3 := li2.below hB3'
      have HCS2 : Hid ([Value.slice sA (bsl b).length scc] = (List.range 1).map (slcell ⟨sA, scc, bsl b⟩)) := Lib.hid rfl
      clear hse HBF HBE hbT hsm hkT
      go_wp2_with (at_builtin; go_loud (
        refine wpList_push (w0 := w3) (cell := slcell) (y := (⟨sA, scc, bsl b⟩ : SLc)) rfl _ _ _ rfl w3.heap.size w3.heap.size 31 il _ 24 Tryd.underlying28 Hil.out Hzl0.out Hzl1.out Hzl2.out rfl (by decide) _ _ _ rfl li3.outer _ _ HCS2.out _ rfl (sl_one _) (by unfold maxLen; omega) (by omega) hB13.size (Nat.le_refl _) hB13 ?_
        intro v9 w9 hown9 hb9 hg9))
      have li9 := li3.push hin hown9 hg9
      first
        | exact ⟨_, rfl, rfl, ls.length - (ss.length + 1), by omega, by trivial, ss ++ [⟨sA, scc, bsl b⟩], by rw [List.length_append]; rfl, by rw [List.length_append]; exact hsl, hb9, by exact li9, by rw [List.length_append]; exact HS9⟩
        | exact ⟨rfl, ls.length - (ss.length + 1), by omega, ss ++ [⟨sA, scc, bsl b⟩], by rw [List.length_append]; rfl, by rw [List.length_append]; exact hsl, li9, by rw [List.length_append]; exact HS9⟩
  have hsll : ss.length = ls.length := by omega
  have HST : Hid (ss.map (·.xs) = (Ge.srtB E n).map bsl) := Lib.hid (by rw [HSS.out, hsll, HLL.out, ← Ge.srtB_len, List.take_length])
  have HSLN : Hid (ss.length = (Ge.srtB E n).length) := Lib.hid (by rw [hsll, HLL.out, Ge.srtB_len])
  have q2 : decide ((ss.length : Int) < (ls.length : Int)) = false := decide_eq_false (by omega)
  have hsn : ss.length ≤ 512 := by omega
  have hW2 := hW1.trans (hB2'.mono hW1.size)
  have HIS : Hid (∀ s ∈ ss, Sl 1 icell W2 W2.heap.size s.A s.xs) := Lib.hid (fun s hs => Sl.of_own (by decide) (li2.inner s hs))
  clear hsll HSS
  go_wp2_with fail
  clear q2 hsl
  refine wp_loop_mrg [12, 13, 14, 15, 81, 82, 83, 84, 85, 86, 87, 88, 89, 90, 91, 92, 93, 94, 95, 96, 97, 98, 99, 100, 101, 102, 103, 104, 105] (fun mm f0 ds W4 => ds = [] ∧ ∃ (v : Nat), f0 13 = .int .i64 v ∧ n - v = mm ∧ v ≤ n ∧ Below W2.heap.size W2 W4 ∧ W4.ownsRow W2.heap.size 3 1 (f0 12) (Ge.cutB E n v).length (flat 1 icell (bsl (Ge.cutB E n v)))) n ⟨rfl, 0, rfl, rfl, Nat.zero_le _, Below.refl _ _, by rw [show Ge.cutB E n 0 = [] from rfl]; exact own_nil _ _ _ 1 icell⟩ ?_
  intro c4' T4' hc2 hT2
  rintro mm f0 ds W4 ⟨rfl, v, hf13, rfl, hv, hB4, ownC⟩
  replace hc2 := hc2.out
  subst hc2
  replace hT2 := hT2.out
  subst hT2
  generalize hF : mrgF _ 0 _ _ = F
  simp only [mrg_hit, mrg_miss, mrg_end, Nat.reduceBEq, Nat.reduceAdd] at hF
  rw [hf13] at hF
  subst hF
  clear hf13
  generalize f0 12 = vC at *
  by_cases hvn : v < n
  · have q4 : decide ((v : Int) < (n : Int)) = true := decide_eq_true (by omega)
    have HCN : Hid (Ge.cutB E n (v + 1) = if 2 ≤ Ge.cnt (Ge.srtB E n) v then Ge.cutB E n v ++ [v] else Ge.cutB E n v) := Lib.hid (Ge.cutB_snoc v)
    have hcl := Ge.cutB_len (E := E) (n := n) v
    generalize Ge.cutB E n v = cv at *
    go_wp2_with fail
    refine wp_loop_mrg [14, 15, 86, 87, 88, 89, 90, 91, 92, 93, 94, 95, 96, 97, 98, 99] (fun mm f0 ds W5 => ds = [] ∧ ∃ (j c : Nat), f0 15 = .int .i64 j ∧ f0 14 = .int .i64 c ∧ ss.length - j = mm ∧ j ≤ ss.length ∧ W5 = W4 ∧ Hid (Ge.cnt ((Ge.srtB E n).take j) v = c)) ss.length ⟨rfl, 0, 0, rfl, rfl, rfl, Nat.zero_le _, rfl, Lib.hid rfl⟩ ?_
    intro c5' T5' hc2 hT2
    rintro mm f0 ds W5 ⟨rfl, j, c, hf15, hf14, rfl, hj, rfl, HCT⟩
    replace hc2 := hc2.out
    subst hc2
    replace hT2 := hT2.out
    subst hT2
    generalize hF : mrgF _ 0 _ _ = F
    simp only [mrg_hit, mrg_miss, mrg_end, Nat.reduceBEq, Nat.reduceAdd] at hF
    rw [hf15, hf14] at hF
    subst hF
    clear hf15 hf14
    have hcl2 : c ≤ 512 := by
      have h1 := Ge.cnt_le ((Ge.srtB E n).take j) v
      rw [List.length_take, HCT.out] at h1
      omega
    by_cases hjl : j < ss.length
    · have y0 : (0 : Int) ≤ (j : Int) := by omega
      have y1 : (j : Int) < (ss.length : Int) := by omega
      have q5 : decide ((j : Int) < (ss.length : Int)) = true := decide_eq_true y1
      have hjT : j < (Ge.srtB E n).length := by have := HSLN.out; omega
      have HCJ : Hid (Ge.cnt ((Ge.srtB E n).take (j + 1)) v = c + if v ∈ (Ge.srtB E n)[j] then 1 else 0) := Lib.hid (by rw [List.take_succ_eq_append_getElem hjT, Ge.cnt_snoc, HCT.out])
      have hxs : ss[j].xs = bsl (Ge.srtB E n)[j] := by
        have h1 : (ss.map (·.xs))[j]? = ((Ge.srtB E n).map bsl)[j]? := by rw [HST.out]
        rw [List.getElem?_map, List.getElem?_map, List.getElem?_eq_getElem hjl, List.getElem?_eq_getElem hjT] at h1
        exact Option.some.inj h1
      have hbl := (HNE.out (Ge.srtB E n)[j] ((isort_perm _).mem_iff.1 (List.getElem_mem hjT))).2
      have hin1 := ((HIS.out _ (List.getElem_mem hjl)).below hB4).more (B' := W5.heap.size) hB4.size
      obtain ⟨lo, hlo, hlob, o0⟩ := ((hSo.below hB4).more (B' := W5.heap.size) hB4.size).one_at hjl
      generalize ss[j] = sj at *
      obtain ⟨jA, jc, jxs⟩ := sj
      dsimp only at hxs
      subst hxs
      simp only [slcell] at o0
      dsimp only at hin1
      generalize (Ge.srtB E n)[j] = bj at *
      have kI := rIn_any jA jc (bsl bj) v W5 hin1 (by rw [bsl_len]; omega)
      subst hlo
      clear HCT
      by_cases hm : v ∈ bj
      · rw [decide_eq_true (mem_bsl.2 hm)] at kI
        have HC2 : Hid (Ge.cnt ((Ge.srtB E n).take (j + 1)) v = c + 1) := Lib.hid (by rw [HCJ.out, if_pos hm])
        clear HCJ hm
        go_wp2_with fail
        refine kI.mono ?_
        rintro e w6 ⟨rfl, rfl⟩
        go_wp2_with fail
        first
          | exact ⟨_, rfl, rfl, ss.length - (j + 1), by omega, by trivial, j + 1, c + 1, rfl, rfl, rfl, hjl, by trivial, HC2⟩
          | exact ⟨rfl, ss.length - (j + 1), by omega, j + 1, c + 1, rfl, rfl, rfl, hjl, HC2⟩
      · rw [decide_eq_false (fun h => hm (mem_bsl.1 h))] at kI
        have HC2 : Hid (Ge.cnt ((Ge.srtB E n).take (j + 1)) v = c) := Lib.hid (by rw [HCJ.out, if_neg hm]; rfl)
        clear HCJ hm
        go_wp2_with fail
        refine kI.mono ?_
        rintro e w6 ⟨rfl, rfl⟩
        go_wp2_with fail
        first
          | exact ⟨_, rfl, rfl, ss.length - (j + 1), by omega, by trivial, j + 1, c, rfl, rfl, rfl, hjl, by trivial, HC2⟩
          | exact ⟨rfl, ss.length - (j + 1), by omega, j + 1, c, rfl, rfl, rfl, hjl, HC2⟩
    · obtain rfl : j = ss.length := by omega
      have q5 : decide ((ss.length : Int) < (ss.length : Int)) = false := decide_eq_false (by omega)
      have HCF : Hid (Ge.cnt (Ge.srtB E n) v = c) := Lib.hid (by rw [← HCT.out, HSLN.out, List.take_length])
      clear HCT
      by_cases h2 : 2 ≤ c
      · have q6 : decide ((2 : Int) ≤ (c : Int)) = true := decide_eq_true (by omega)
        have HC3 : Hid (Ge.cutB E n (v + 1) = cv ++ [v]) := Lib.hid (by rw [HCN.out, HCF.out, if_pos h2])
        clear HCN HCF h2
        go_wp2_with (at_builtin; go_loud (
          refine wpList_push (w0 := W2) (cell := icell) (y := ((v : Nat) : Int)) rfl _ _ _ rfl W2.heap.size W2.heap.size 3 i0 _ 8 Tryd.underlying31 Hi.out Hz0.out Hz1.out Hz2.out rfl (by decide) _ _ _ rfl ownC _ _ rfl _ rfl (fun _ => rfl) (by unfold maxLen; omega) (by omega) hB4.size (Nat.le_refl _) hB4 ?_
          intro v8 w8 hown8 hb8 hg8))
        first
          | exact ⟨_, rfl, rfl, n - (v + 1), by omega, by trivial, v + 1, rfl, rfl, hvn, hb8, by rw [HC3.out, List.length_append, bsl_snoc]; exact hown8⟩
          | exact ⟨rfl, n - (v + 1), by omega, v + 1, rfl, rfl, hvn, by rw [HC3.out, List.length_append, bsl_snoc]; exact hown8⟩
      · have q6 : decide ((2 : Int) ≤ (c : Int)) = false := decide_eq_false (by omega)
        have HC3 : Hid (Ge.cutB E n (v + 1) = cv) := Lib.hid (by rw [HCN.out, HCF.out, if_neg h2])
        clear HCN HCF h2
        go_wp2_with fail
        first
          | exact ⟨_, rfl, rfl, n - (v + 1), by omega, by trivial, v + 1, rfl, rfl, hvn, hB4, by rw [HC3.out]; exact ownC⟩
          | exact ⟨rfl, n - (v + 1), by omega, v + 1, rfl, rfl, hvn, by rw [HC3.out]; exact ownC⟩
  · obtain rfl : v = n := by omega
    have q4 : decide ((v : Int) < (v : Int)) = false := decide_eq_false (by omega)
    have ownC2 := ownC
    rw [← bsl_len] at ownC2
    obtain ⟨CA, cc, rfl, hC⟩ := own_slice (by decide) ownC2
    rw [bsl_len] at *
    have llF := (li2.below hB4).ll
    have hWF := hW2.trans (hB4.mono hW2.size)
    clear ownC ownC2
    go_wp2_with fail
    go_ret2
    exact ⟨SA, sc, ss, CA, cc, rfl, llF, HST.out, hC, hWF⟩
end Go.Proofs.YtjoomgojnpcbeaaDoor
end
