/- A bundle of texts: Law14, Flat14, Made14, SvMath, BsT, Kn14M. -/
import Derived.Test.YtihepapjopcagaaGreatDoorB18
import Derived.Test.YtihepapjopcagaaGreatDoorB16
import Derived.Lib.AppendStr
import Derived.Laws.IdiomStrings
import Derived.Deep.RegionHeld3
import Derived.Deep.DeepCutAuto
/- The law package of layer 14: equal, area. -/
section
namespace Go.Proofs.YtihepapjopcagaaGreatDoor
open Go Go.RowKit
set_option maxRecDepth 100000

set_option maxHeartbeats 8000000 in
theorem equal14_any (A B : Option Addr) (ac bc : Nat) (a b : List Int) (w : World) (hA : Sl 1 icell w w.heap.size A a) (hB' : Sl 1 icell w w.heap.size B b) (ha : a.length ≤ 1000000) :
    Calls Tryz.prog 20 #[.slice A a.length ac, .slice B b.length bc] w fun e w' => e = .returned (.bool (decide (a = b))) ∧ Below w.heap.size w w' := by
  obtain ⟨r, hr⟩ : ∃ r, decide (a = b) = r := ⟨_, rfl⟩
  rw [hr]
  have HR := Lib.hid hr
  clear hr
  by_cases hl : a.length = b.length
  · have q : ((a.length : Int) != (b.length : Int)) = false := by simp; omega
    have HN : Hid (∀ k (h1 : k < a.length) (h2 : k < b.length), a[k] ≠ b[k] → false = r) := Lib.hid (fun k h1 h2 h => by
      rw [← HR.out]; symm
      rw [decide_eq_false_iff_not]
      intro e
      subst e
      exact h rfl)
    have HY : Hid ((∀ k (h1 : k < a.length) (h2 : k < b.length), a[k] = b[k]) → true = r) := Lib.hid (fun h => by
      rw [← HR.out]; symm
      rw [decide_eq_true_eq]
      exact List.ext_getElem hl h)
    go_enter Tryz.func20, Tryz.ntmps20
    go_wp2_with fail
    go_loopw [5] (fun i wr => ∃ k : Nat, k ≤ a.length ∧ i = .int .i64 k ∧ Below w.heap.size w wr ∧ Hid (∀ j (h1 : j < a.length) (h2 : j < b.length), j < k → a[j] = b[j])) (fun i _ => a.length - (intOf i).toNat)
    case atStart => exact ⟨0, Nat.zero_le _, rfl, Below.refl _ _, Lib.hid (fun j _ _ h => absurd h (by omega))⟩
    case round =>
      clear q
      obtain ⟨k, hk, rfl, hB, HK⟩ := hrel
      by_cases hlt : k < a.length
      · have hlt2 : k < b.length := by omega
        obtain ⟨la, rfl, hlb, a0⟩ := ((hA.below hB).more hB.size).one_at hlt
        obtain ⟨lb, rfl, hlb2, b0⟩ := ((hB'.below hB).more hB.size).one_at hlt2
        have l1 : (la.add k).block < wr.heap.size := by first | exact hlb | (rw [add_block]; exact hlb)
        have l2 : (lb.add k).block < wr.heap.size := by first | exact hlb2 | (rw [add_block]; exact hlb2)
        simp only [icell] at a0 b0
        have HNk := Lib.hid (HN.out k hlt hlt2)
        have HK2 : Hid (a[k] = b[k] → ∀ j (h1 : j < a.length) (h2 : j < b.length), j < k + 1 → a[j] = b[j]) := Lib.hid (fun h j h1 h2 h3 => by
          by_cases e : j = k
          · subst e; exact h
          · exact HK.out j h1 h2 (by omega))
        generalize a[k] = x at *
        generalize b[k] = y at *
        by_cases he : x = y
        · have q : (x != y) = false := by simp [he]
          have HK3 := Lib.hid (HK2.out he)
          clear he
          go_wp2_with fail
          refine wp_region_kept wr.heap.size wr (by kernel_rfl) (by kernel_rfl) (Below.refl _ _) ?_
          repeat (go_big_quiet_step (fail))
          refine wpQuiet_nil ?_
          rintro w5 ⟨⟨_, hb5⟩, rfl⟩
          go_wp2_with fail
          go_roundw
          case rel => exact ⟨k + 1, hlt, by go_num, after_ hB hb5, HK3⟩
          case measure => simp [intOf]; omega
        · have q : (x != y) = true := by simp [he]
          have HF := Lib.hid (HNk.out he)
          clear he
          go_wp2_with fail
          refine wp_region_kept wr.heap.size wr (by kernel_rfl) (by kernel_rfl) (Below.refl _ _) ?_
          repeat (go_big_quiet_step (fail))
          refine wpQuiet_nil ?_
          rintro w5 ⟨⟨_, hb5⟩, rfl⟩
          go_wp2_with fail
          go_ret
          exact ⟨ret_bool HF.out, after_ hB hb5⟩
      · have HF := Lib.hid (HY.out (fun j h1 h2 => HK.out j h1 h2 (by omega)))
        go_wp2_with fail
        go_ret
        exact ⟨ret_bool HF.out, hB⟩
  · have q : ((a.length : Int) != (b.length : Int)) = true := by simp; omega
    have HF : Hid (false = r) := Lib.hid (by
      rw [← HR.out]; symm
      rw [decide_eq_false_iff_not]
      intro e
      exact hl (by rw [e]))
    clear hl
    go_enter Tryz.func20, Tryz.ntmps20
    go_wp2_with fail
    go_ret
    exact ⟨ret_bool HF.out, Below.refl _ _⟩

set_option maxHeartbeats 4000000 in
theorem area14_ok (W H : Int) (GA PA : Option Addr) (gc pc : Nat) (G P : List Int) (s : St) (A : Option Addr) (c : Nat) (LA : Option Addr) (lc : Nat) (l : List Int) (w : World) (ht : Tab w) (hg : Sl 1 icell w w.heap.size GA G) (hp : Sl 1 icell w w.heap.size PA P) (hS : Sl 1 icell w w.heap.size A s.pat) (hl : Sl 1 icell w w.heap.size LA l) (hok : M.okS W H G P s = true) (he : M.area W H G s = l) :
    Calls Tryz.prog 34 #[tv W H GA PA G.length gc P.length pc, stv s A c, .slice LA l.length lc] w fun e w' => e = .returned (.bool true) ∧ Below w.heap.size w w' := by
  obtain ⟨V, HW, x0, x1, hB, -⟩ := boxes2 w #[.int .i64 W, .int .i64 H, .slice GA G.length gc, .slice PA P.length pc] 30 (stc s A c) 34
  have k := area_ok W H GA PA gc pc G P s A c V (ht.kept hB) ((hg.below hB).more hB.size) ((hp.below hB).more hB.size) ((hS.below hB).more hB.size) hok
  have hlen : l.length ≤ 4096 := by
    obtain ⟨-, htv, -, -⟩ := M.okS_iff.1 hok
    obtain ⟨r1, r2, -⟩ := M.tvalid_iff.1 htv
    have := M.wh_le r1 r2
    rw [← he]
    exact Nat.le_trans M.area_len (by omega)
  rw [he] at k
  clear he hok
  obtain ⟨c0, c1, c2, c3⟩ := x0.c4
  obtain ⟨b0, b1, b2, b3, b4, b5, b6, b7⟩ := x1.c8
  have hV := HW.out
  go_enter Tryz.func34, Tryz.ntmps34
  go_wp2_with fail
  clear hV
  refine k.mono ?_
  rintro e w1 ⟨RA, rc, rfl, hRA, hb1⟩
  have B1 := after_ hB hb1
  have kk := equal14_any RA LA rc lc l l w1 hRA ((hl.below B1).more B1.size) (by omega)
  rw [decide_eq_true rfl] at kk
  go_wp2_with fail
  refine kk.mono ?_
  rintro e w2 ⟨rfl, hb2⟩
  go_wp2_with fail
  go_ret
  exact ⟨rfl, after_ B1 hb2⟩

/-- Whether inputs are too large to be looked at. -/
def M.big (gl pl : Nat) (l : List St) : Bool := decide (150 < gl) || decide (150 < pl) || decide (5 < l.length) || l.any fun s => decide (20 < s.pat.length)
theorem M.big_no {gl pl : Nat} {l : List St} (h : M.big gl pl l = false) : gl ≤ 150 ∧ pl ≤ 150 ∧ l.length ≤ 5 ∧ ∀ s ∈ l, s.pat.length ≤ 20 := by
  unfold M.big at h
  simp only [Bool.or_eq_false_iff, decide_eq_false_iff_not, List.any_eq_false, decide_eq_true_eq] at h
  exact ⟨by omega, by omega, by omega, fun s hs => by have := h.2 s hs; omega⟩
set_option maxHeartbeats 8000000 in
theorem big14_any (W H : Int) (GA PA : Option Addr) (gc pc gl pl : Nat) (LA : Option Addr) (lc : Nat) (es : List SE) (w : World) (hL : Sl 8 secell w w.heap.size LA es) :
    Calls Tryz.prog 11 #[tv W H GA PA gl gc pl pc, .slice LA es.length lc] w fun e w' => e = .returned (.bool (M.big gl pl (es.map (·.s)))) ∧ Below w.heap.size w w' := by
  obtain ⟨V, HW, x0, hB, -⟩ := boxes1 w #[.int .i64 W, .int .i64 H, .slice GA gl gc, .slice PA pl pc] 30
  obtain ⟨r, hr⟩ : ∃ r, M.big gl pl (es.map (·.s)) = r := ⟨_, rfl⟩
  rw [hr]
  unfold M.big at hr
  rw [List.length_map] at hr
  have HR := Lib.hid hr
  clear hr
  obtain ⟨c0, c1, c2, c3⟩ := x0.c4
  have hV := HW.out
  by_cases h1 : 150 < gl
  · have q1 : decide ((150 : Int) < (gl : Int)) = true := decide_eq_true (by omega)
    have HF : Hid (true = r) := Lib.hid (by rw [← HR.out, decide_eq_true h1]; rfl)
    go_enter Tryz.func11, Tryz.ntmps11
    go_wp2_with fail
    go_ret
    exact ⟨ret_bool HF.out, hB⟩
  have q1 : decide ((150 : Int) < (gl : Int)) = false := decide_eq_false (by omega)
  by_cases h2 : 150 < pl
  · have q2 : decide ((150 : Int) < (pl : Int)) = true := decide_eq_true (by omega)
    have HF : Hid (true = r) := Lib.hid (by rw [← HR.out, decide_eq_true h2]; simp)
    go_enter Tryz.func11, Tryz.ntmps11
    go_wp2_with fail
    go_ret
    exact ⟨ret_bool HF.out, hB⟩
  have q2 : decide ((150 : Int) < (pl : Int)) = false := decide_eq_false (by omega)
  by_cases h3 : 5 < es.length
  · have q3 : decide ((5 : Int) < (es.length : Int)) = true := decide_eq_true (by omega)
    have HF : Hid (true = r) := Lib.hid (by rw [← HR.out, decide_eq_true h3]; simp)
    go_enter Tryz.func11, Tryz.ntmps11
    go_wp2_with fail
    go_ret
    exact ⟨ret_bool HF.out, hB⟩
  have q3 : decide ((5 : Int) < (es.length : Int)) = false := decide_eq_false (by omega)
  have HNK : Hid (∀ k (hk : k < es.length), 20 < es[k].s.pat.length → true = r) := Lib.hid (fun k hk h => by
    rw [← HR.out]
    have : ((es.map (·.s)).any fun s => decide (20 < s.pat.length)) = true := by
      rw [List.any_eq_true]
      exact ⟨es[k].s, List.mem_map.2 ⟨_, List.getElem_mem hk, rfl⟩, decide_eq_true h⟩
    rw [this, Bool.or_true])
  have HYES : Hid ((∀ k (hk : k < es.length), es[k].s.pat.length ≤ 20) → false = r) := Lib.hid (fun h => by
    rw [← HR.out]
    have : ((es.map (·.s)).any fun s => decide (20 < s.pat.length)) = false := by
      rw [List.any_eq_false]
      intro s hs
      obtain ⟨e, he, rfl⟩ := List.mem_map.1 hs
      obtain ⟨j, hj, rfl⟩ := List.getElem_of_mem he
      have := h j hj
      simp; omega
    rw [this, decide_eq_false h1, decide_eq_false h2, decide_eq_false h3]; rfl)
  go_enter Tryz.func11, Tryz.ntmps11
  go_wp2_with fail
  clear hV c0 c1 c2 c3 q1 q2 q3
  go_loop [5] (fun i => ∃ k : Nat, k ≤ es.length ∧ i = .int .i64 k ∧ Hid (∀ j (hj : j < es.length), j < k → es[j].s.pat.length ≤ 20)) (fun i => es.length - (intOf i).toNat)
  case atStart => exact ⟨0, Nat.zero_le _, rfl, Lib.hid (fun j _ h => absurd h (by omega))⟩
  case round =>
    obtain ⟨k, hk, rfl, HN⟩ := hrel
    by_cases hlt : k < es.length
    · obtain ⟨la, rfl, hlb, a0, a1, a2, a3, a4, a5, a6, a7⟩ := ((hL.below hB).more hB.size).st8 hlt
      have HK1 := Lib.hid (HNK.out k hlt)
      have HN2 : Hid (es[k].s.pat.length ≤ 20 → ∀ j (hj : j < es.length), j < k + 1 → es[j].s.pat.length ≤ 20) := Lib.hid (fun h j h1 h3 => by
        by_cases e : j = k
        · subst e; exact h
        · exact HN.out j h1 (by omega))
      generalize es[k].s.pat.length = m at *
      by_cases hm : 20 < m
      · have q4 : decide ((20 : Int) < (m : Int)) = true := decide_eq_true (by omega)
        have HF := Lib.hid (HK1.out hm)
        go_wp2_with fail
        go_ret
        exact ⟨ret_bool HF.out, hB⟩
      · have q4 : decide ((20 : Int) < (m : Int)) = false := decide_eq_false (by omega)
        have HN3 := Lib.hid (HN2.out (by omega))
        go_wp2_with fail
        go_round
        case rel => exact ⟨k + 1, hlt, by go_num, HN3⟩
        case measure => simp [intOf]; omega
    · have HF := Lib.hid (HYES.out (fun j hj => HN.out j hj (by omega)))
      go_wp2_with fail
      go_ret
      exact ⟨ret_bool HF.out, hB⟩
end Go.Proofs.YtihepapjopcagaaGreatDoor
end

/- The document's Flat of layer 10 (the text of station/XFlat over other imports). -/
section
namespace Go.Proofs.YtihepapjopcagaaGreatDoor
open Go Go.RowKit
set_option maxRecDepth 100000

theorem push_far {v vo v' : Value} {w : World} (hlt : ∀ g, vo.ownBlock = some g → g < w.heap.size) (hne : vo.ownBlock = none ∨ vo.ownBlock ≠ v.ownBlock) (hat : ∀ b, v'.ownBlock = some b → v.ownBlock = some b ∨ w.heap.size ≤ b) : vo.ownBlock = none ∨ vo.ownBlock ≠ v'.ownBlock := by
  rcases hne with h | h
  · exact .inl h
  · cases ho : vo.ownBlock with
    | none => exact .inl rfl
    | some g =>
      right; intro e
      rcases hat g e.symm with h2 | h2
      · exact h (by rw [ho, h2])
      · have := hlt g ho; omega

theorem flip_far {a b : Value} (h : a.ownBlock = none ∨ a.ownBlock ≠ b.ownBlock) : b.ownBlock = none ∨ b.ownBlock ≠ a.ownBlock := by
  rcases h with h | h
  · cases hb : b.ownBlock with
    | none => exact .inl rfl
    | some g => right; rw [h]; simp
  · exact .inr (Ne.symm h)

def RetTer (w : World) (W H : Int) (G P : List Int) (e : Ending) (w' : World) : Prop :=
  ∃ GA gc PA pc, e = .returned (tv W H GA PA G.length gc P.length pc) ∧ Sl 1 icell w' w'.heap.size GA G ∧ Sl 1 icell w' w'.heap.size PA P ∧ Below w.heap.size w w'

set_option maxHeartbeats 8000000 in
theorem flat_ok (W H g p : Int) (N : Nat) (w : World) (hN : Hid (W * H = (N : Int))) (hNb : N ≤ 1000000) :
    Calls Tryz.prog 33 #[.int .i64 W, .int .i64 H, .int .i64 g, .int .i64 p] w (RetTer w W H (List.replicate N g) (List.replicate N p)) := by
  obtain ⟨V, HW, x0, x1, hB, hs⟩ := boxes2 w #[.int .i64 0, .int .i64 0, .slice none 0 0, .slice none 0 0] 30 #[.int .i64 W, .int .i64 H, .slice none 0 0, .slice none 0 0] 30
  have HS := Lib.hid hs
  clear hs
  obtain ⟨i0, hi, hz0, hz1, hz2⟩ := info_parts intInfo
  have Hi := Lib.hid hi; have Hz0 := Lib.hid hz0; have Hz1 := Lib.hid hz1; have Hz2 := Lib.hid hz2
  clear hi hz0 hz1 hz2
  have hmul := hN.out
  go_enter Tryz.func33, Tryz.ntmps33
  go_wp2_with fail
  rw [HW.out]
  go_loopw [10] (fun i wr => ∃ (k : Nat) (vG vP : Value), k ≤ N ∧ i = .int .i64 k ∧ Below w.heap.size w wr ∧ w.heap.size + 2 ≤ wr.heap.size ∧ Box wr w.heap.size #[.int .i64 0, .int .i64 0, .slice none 0 0, .slice none 0 0] 30 ∧ Box wr (w.heap.size + 1) #[.int .i64 W, .int .i64 H, vG, vP] 30 ∧ wr.ownsRow (w.heap.size + 2) 3 1 vG k (flat 1 icell (List.replicate k g)) ∧ wr.ownsRow (w.heap.size + 2) 3 1 vP k (flat 1 icell (List.replicate k p)) ∧ (vP.ownBlock = none ∨ vP.ownBlock ≠ vG.ownBlock)) (fun i _ => N - (intOf i).toNat)
  case atStart => exact ⟨0, .slice none 0 0, .slice none 0 0, Nat.zero_le _, rfl, hB, Nat.le_of_eq HS.out.symm, x0, x1, own_nil _ _ _ _ _, own_nil _ _ _ _ _, .inl rfl⟩
  case round =>
    clear x0 x1 hB
    obtain ⟨k, vG, vP, hk, rfl, hBw, hsz, X0, X1, oG, oP, hne⟩ := hrel
    obtain ⟨c0, c1, c2, c3⟩ := X1.c4
    by_cases hlt : k < N
    · have HRG : Hid (List.replicate (k + 1) g = List.replicate k g ++ [g]) := Lib.hid List.replicate_succ'
      have HRP : Hid (List.replicate (k + 1) p = List.replicate k p ++ [p]) := Lib.hid List.replicate_succ'
      have HLG : Hid ((List.replicate k g ++ [g]).length = k + 1) := Lib.hid (by simp)
      have HLP : Hid ((List.replicate k p ++ [p]).length = k + 1) := Lib.hid (by simp)
      have nG : ∀ b, b < w.heap.size + 2 → some b ≠ vG.ownBlock := fun b hb e => by have := (oG.lt b e.symm).1; omega
      have nP : ∀ b, b < w.heap.size + 2 → some b ≠ vP.ownBlock := fun b hb e => by have := (oP.lt b e.symm).1; omega
      have HNG := Lib.hid nG
      have HNP := Lib.hid nP
      clear nG nP
      go_wp2_with (first
        | (at_builtin; refine wpList_push2 (w := wr) (w0 := w) (cell := icell) (y := g) rfl _ _ _ rfl (w.heap.size + 2) w.heap.size 3 i0 _ 8 Tryz.underlying28 Hi.out Hz0.out Hz1.out Hz2.out rfl (by decide) vG k _ rfl oG _ _ rfl _ rfl (i_one _) (by unfold maxLen; omega) (by omega) hsz (by omega) hBw ?_; intro vG1 w1 oG1 bG1 gG1 aG1; obtain ⟨AG, cG, rfl, _⟩ := own_slice (by decide) oG1; rw [HLG.out] at oG1 aG1 ⊢; have Y0 := X0.grown gG1 (HNG.out _ (by omega)); have Y1 := X1.grown gG1 (HNG.out _ (by omega)); have oP1 := oP.kept gG1 hne; have ne1 := push_far (v := vG) (fun b hb => (oP.lt b hb).2) hne aG1; obtain ⟨d0, d1, d2, d3⟩ := Y1.c4; have f2 := Y1.frozen 2; have Z0 := Y0.set_other (p := ⟨w.heap.size + 1, 2, none⟩) (by dsimp only; omega) (Value.slice AG (k + 1) cG); have Z1 := Y1.set 2 (Value.slice AG (k + 1) cG); have oG2 := ownsRow_setCell_below oG1 (a := ⟨w.heap.size + 1, 2, none⟩) (by dsimp only; omega) (Value.slice AG (k + 1) cG); have oP2 := ownsRow_setCell_below oP1 (a := ⟨w.heap.size + 1, 2, none⟩) (by dsimp only; omega) (Value.slice AG (k + 1) cG); have b2 := bG1.setCell (p := ⟨w.heap.size + 1, 2, none⟩) (by dsimp only; omega) (Value.slice AG (k + 1) cG); have s2 : w.heap.size + 2 ≤ (w1.setCell ⟨w.heap.size + 1, 2, none⟩ (Value.slice AG (k + 1) cG)).heap.size := (by rw [World.size_setCell]; exact Nat.le_trans hsz gG1.size); clear c0 c1 c2 c3 oG oP oG1 oP1 bG1)
        | (at_builtin; refine wpList_push2 (w := w1.setCell ⟨w.heap.size + 1, 2, none⟩ (Value.slice AG (k + 1) cG)) (w0 := w) (cell := icell) (y := p) rfl _ _ _ rfl (w.heap.size + 2) w.heap.size 3 i0 _ 8 Tryz.underlying28 Hi.out Hz0.out Hz1.out Hz2.out rfl (by decide) vP k _ rfl oP2 _ _ rfl _ (by rw [World.size_setCell]; rfl) (i_one _) (by unfold maxLen; omega) (by omega) s2 (by omega) b2 ?_; intro vP3 w3 oP3 bP3 gP3 aP3; obtain ⟨AP, cP, rfl, _⟩ := own_slice (by decide) oP3; rw [HLP.out] at oP3 aP3 ⊢; have U0 := Z0.grown gP3 (HNP.out _ (by omega)); have U1 := Z1.grown gP3 (HNP.out _ (by omega)); have oG3 := oG2.kept gP3 (flip_far ne1); have f3 := U1.frozen 3; have e3 : w3.cell? ⟨w.heap.size + 1, 3, none⟩ = some vP := U1.cell 3 rfl))
      have W0 := U0.set_other (p := ⟨w.heap.size + 1, 3, none⟩) (by dsimp only; omega) (Value.slice AP (k + 1) cP)
      have W1 := U1.set 3 (Value.slice AP (k + 1) cP)
      have oG4 := ownsRow_setCell_below oG3 (a := ⟨w.heap.size + 1, 3, none⟩) (by dsimp only; omega) (Value.slice AP (k + 1) cP)
      have oP4 := ownsRow_setCell_below oP3 (a := ⟨w.heap.size + 1, 3, none⟩) (by dsimp only; omega) (Value.slice AP (k + 1) cP)
      have b4 := bP3.setCell (p := ⟨w.heap.size + 1, 3, none⟩) (by dsimp only; omega) (Value.slice AP (k + 1) cP)
      have s4 : w.heap.size + 2 ≤ (w3.setCell ⟨w.heap.size + 1, 3, none⟩ (Value.slice AP (k + 1) cP)).heap.size := by rw [World.size_setCell]; exact Nat.le_trans s2 gP3.size
      have ne4 := flip_far (push_far (v := vP) (vo := Value.slice AG (k + 1) cG) (fun b hb => (oG2.lt b hb).2) (flip_far ne1) aP3)
      rw [← HRG.out] at oG4
      rw [← HRP.out] at oP4
      go_roundw
      case rel => exact ⟨k + 1, _, _, hlt, by go_num, b4, s4, W0, W1, oG4, oP4, ne4⟩
      case measure => simp [intOf]; omega
    · obtain rfl : k = N := by omega
      obtain ⟨AG, cG, rfl, SG⟩ := own_slice (by decide) oG
      obtain ⟨AP, cP, rfl, SP⟩ := own_slice (by decide) oP
      obtain ⟨d0, d1, d2, d3⟩ := X0.c4
      have f0 := X0.frozen 0; have f1 := X0.frozen 1; have f2 := X0.frozen 2; have f3 := X0.frozen 3
      have fG : Hid (∀ ad, AG = some ad → ad.block ≠ w.heap.size) := Lib.hid (fun ad h => by have := (own_cap oG).2.2 ad h; omega)
      have fP : Hid (∀ ad, AP = some ad → ad.block ≠ w.heap.size) := Lib.hid (fun ad h => by have := (own_cap oP).2.2 ad h; omega)
      clear oG oP
      go_wp2_with fail
      refine bodyPost_ret (v := tv W H AG AP (List.replicate k g).length cG (List.replicate k p).length cP) ?_ rfl ⟨AG, cG, AP, cP, rfl, ?_, ?_, ?_⟩
      · simp [results, Tryz.results33, go_sem, d0, d1, d2, d3]
      · refine Sl.more ?_ (show wr.heap.size ≤ _ by simp)
        iterate 4 refine Sl.setFar ?_ (fun ad h => fG.out ad h) _
        exact SG
      · refine Sl.more ?_ (show wr.heap.size ≤ _ by simp)
        iterate 4 refine Sl.setFar ?_ (fun ad h => fP.out ad h) _
        exact SP
      · iterate 4 refine Below.setCell ?_ (by dsimp only; omega) _
        exact hBw
end Go.Proofs.YtihepapjopcagaaGreatDoor
end

/- The law package of layer 14: made. -/
section
namespace Go.Proofs.YtihepapjopcagaaGreatDoor
open Go Go.RowKit
set_option maxRecDepth 100000

/-- The station that made returns. -/
def M.mk14 (id x pw ch : Int) : St := ⟨id, x, 0, pw, 20, List.replicate 16 0, M.band ch, ch⟩

set_option maxHeartbeats 4000000 in
theorem made14_ok (id x pw ch : Int) (w : World) : Calls Tryz.prog 35 #[.int .i64 id, .int .i64 x, .int .i64 pw, .int .i64 ch] w (RetSt w (M.mk14 id x pw ch)) := by
  obtain ⟨V, HW, x0, hB, hs⟩ := boxes1 w #[.int .i64 0, .int .i64 0, .int .i64 0, .int .i64 0, .int .i64 0, .slice none 0 0, .int .i64 0, .int .i64 0] 34
  obtain ⟨i0, hi, hz0, hz1, hz2⟩ := info_parts intInfo
  have Hi := Lib.hid hi; have Hz0 := Lib.hid hz0; have Hz1 := Lib.hid hz1; have Hz2 := Lib.hid hz2
  have HS := Lib.hid hs
  clear hi hz0 hz1 hz2 hs
  obtain ⟨w2, hrun, hown, hg2⟩ := run_make_full (P := Tryz.prog) V.drew V.heap.size 28 3 i0 _ 1 Tryz.underlying28 Hi.out Hz0.out Hz1.out .i64 .i64 16 (by rw [Hz2.out]; omega) (by unfold maxLen; omega) (Nat.le_refl _)
  replace hrun : (Instr.makeSlice 28 (.int .i64 16) (.int .i64 16)).run Tryz.prog V.drew = .ok (.slice (some ⟨V.heap.size, 0, none⟩) 16 16) w2 := hrun
  have em := made_flat (cell := icell) (size := 1) (x0 := (0 : Int)) (by decide) (Value.int .i64 0).cells rfl 16
  rw [em] at hown
  clear em
  have hB2 : Below V.heap.size V w2 := ((Below.refl V.heap.size V).drew).grown hg2 (Nat.le_refl _) (by simp)
  have B2 := after_ hB hB2
  have y0 := x0.below hB2
  obtain ⟨d0, d1, d2, d3, d4, d5, d6, d7⟩ := y0.c8
  have f0 := y0.frozen 0; have f1 := y0.frozen 1; have f2 := y0.frozen 2; have f3 := y0.frozen 3; have f4 := y0.frozen 4; have f5 := y0.frozen 5; have f6 := y0.frozen 6; have f7 := y0.frozen 7
  have HO := Lib.hid hown
  clear hown
  have hV := HW.out
  go_enter Tryz.func35, Tryz.ntmps35
  go_wp2_with fail
  go_region_with (go_at_call 53; refine (rBand_any ch _).mono ?_; rintro e w9 ⟨rfl, rfl⟩)
  all_goals
    go_wp2_with fail
    refine bodyPost_ret (v := stv (M.mk14 id x pw ch) (some ⟨V.heap.size, 0, none⟩) 16) ?_ rfl ⟨some ⟨V.heap.size, 0, none⟩, 16, rfl, ?_, ?_⟩
    · simp [results, Tryz.results35, go_sem, d0, d1, d2, d3, d4, d5, d6, d7, M.mk14]
    · refine own_base (base := V.heap.size) ?_ (by have := HS.out; omega)
      iterate 8 refine ownsRow_setCell_below ?_ (by dsimp only; have := HS.out; omega) _
      exact HO.out
    · iterate 8 refine Below.setCell ?_ (by dsimp only; omega) _
      exact B2
end Go.Proofs.YtihepapjopcagaaGreatDoor
end

/- The plain laws of layer 14: the overlap, the numbers that serve a cell, the reach of two, what more power does. -/
section
namespace Go.Proofs.YtihepapjopcagaaGreatDoor
namespace M
theorem filter_none {b : List Int} {x : Int} (hx : x ∉ b) : (b.filter fun y => decide (y = x)) = [] := by
  rw [List.filter_eq_nil_iff]
  intro z hz hd
  rw [decide_eq_true_eq] at hd
  subst hd
  exact hx hz
theorem both_filter {a b : List Int} (hb : b.Nodup) : both a b = a.filter fun x => decide (x ∈ b) := by
  unfold both
  induction a with
  | nil => rfl
  | cons x a ih =>
    rw [List.flatMap_cons, ih, List.filter_cons]
    by_cases h : x ∈ b
    · rw [filter_one hb h, if_pos (decide_eq_true h)]; rfl
    · rw [filter_none h, if_neg (by simp [h])]; rfl
theorem area_def (W H : Int) (G : List Int) (s : St) : area W H G s = ((List.range (W * H).toNat).filter fun (i : Nat) => cov W G s (cx W i) (cy W i)).map fun (i : Nat) => (i : Int) := rfl
theorem area_nodup (W H : Int) (G : List Int) (s : St) : (area W H G s).Nodup := cast_nodup _ _
theorem area_mem {W H : Int} {G : List Int} {s : St} {i : Nat} : (i : Int) ∈ area W H G s ↔ i < (W * H).toNat ∧ cov W G s (cx W i) (cy W i) = true := by
  rw [area_def, List.mem_map]
  constructor
  · rintro ⟨j, hj, e⟩
    obtain rfl : j = i := by omega
    simpa using hj
  · intro h
    exact ⟨i, by simpa using h, rfl⟩
theorem over_both (W H : Int) (G : List Int) (s t : St) : over W H G s t = both (area W H G s) (area W H G t) := by
  rw [both_filter (area_nodup _ _ _ _), area_def W H G s, List.filter_map, List.filter_filter]
  unfold over
  congr 1
  refine List.filter_congr fun i hi => ?_
  have hi' : i < (W * H).toNat := by simpa using hi
  have : ((fun x => decide (x ∈ area W H G t)) ∘ fun (i : Nat) => (i : Int)) i = cov W G t (cx W i) (cy W i) := by
    simp only [Function.comp]
    rw [Bool.eq_iff_iff, decide_eq_true_eq, area_mem]
    simp [hi']
  rw [this, Bool.and_comm]
/-- The numbers of the stations that cover a cell, each once, in order. -/
def refServed (W : Int) (G : List Int) (cx cy : Int) (l : List St) : List Int := ((List.range 512).filter fun (id : Nat) => l.any fun s => decide (s.id = (id : Int)) && cov W G s cx cy).map fun (i : Nat) => (i : Int)
theorem servN_bit (W : Int) (G : List Int) (cx cy : Int) (j : Nat) : ∀ (l : List St) (n : Nat), (∀ s ∈ l, 0 ≤ s.id) → (l.foldl (fun n s => if cov W G s cx cy then n ||| 2 ^ s.id.toNat else n) n).testBit j = (n.testBit j || l.any fun s => decide (s.id = (j : Int)) && cov W G s cx cy)
  | [], n, _ => by simp
  | s :: l, n, h => by
    rw [List.foldl_cons, servN_bit W G cx cy j l _ (fun t ht => h t (by simp [ht])), List.any_cons]
    have h0 := h s (by simp)
    cases hc : cov W G s cx cy with
    | false => simp
    | true =>
      rw [if_pos rfl, Nat.testBit_or, Nat.testBit_two_pow, Bool.and_true, Bool.or_assoc]
      congr 2
      rw [decide_eq_decide]
      omega
theorem served_list {W : Int} {G : List Int} {cx cy : Int} {l : List St} (h : ∀ s ∈ l, 0 ≤ s.id) : bsl (Bs.els (servN W G cx cy l) 0) = refServed W G cx cy l := by
  have e : ((List.range 512).filter fun j => (servN W G cx cy l).testBit j) = (List.range 512).filter fun (id : Nat) => l.any fun s => decide (s.id = (id : Int)) && cov W G s cx cy := by
    refine List.filter_congr fun j _ => ?_
    unfold servN
    rw [servN_bit W G cx cy j l 0 h, Nat.zero_testBit, Bool.false_or]
  rw [Bs.els_filter, e]
  rfl
theorem sumB_incl (P : List Int) (p q : Nat → Bool) : ∀ n : Nat, sumB P n (fun i => p i || q i) + sumB P n (fun i => p i && q i) = sumB P n p + sumB P n q
  | 0 => by simp [sumB_zero]
  | n + 1 => by
    have := sumB_incl P p q n
    simp only [sumB_succ]
    cases p n <;> cases q n <;> simp <;> omega
theorem area_inN {W H : Int} {G : List Int} {s : St} : ∀ x ∈ area W H G s, 0 ≤ x ∧ x < ((W * H).toNat : Int) := fun x hx => by have := area_in x hx; omega
theorem over_nodup (W H : Int) (G : List Int) (s t : St) : (over W H G s t).Nodup := cast_nodup _ _
theorem over_mem {W H : Int} {G : List Int} {s t : St} {x : Int} : x ∈ over W H G s t ↔ x ∈ area W H G s ∧ x ∈ area W H G t := by
  rw [over_both, both_filter (area_nodup _ _ _ _), List.mem_filter, decide_eq_true_eq]
theorem over_in {W H : Int} {G : List Int} {s t : St} : ∀ x ∈ over W H G s t, 0 ≤ x ∧ x < W * H := fun x hx => area_in x (over_mem.1 hx).1
theorem over_len {W H : Int} {G : List Int} {s t : St} : (over W H G s t).length ≤ (W * H).toNat := by
  unfold over
  rw [List.length_map]
  exact Nat.le_trans (List.length_filter_le _ _) (by simp)
theorem reach_two (W H : Int) (G P : List Int) (a b : St) : total P (reachL W H G [a, b]) = total P (area W H G a) + total P (area W H G b) - ((over W H G a b).map (pv P)).sum := by
  have e1 : total P (reachL W H G [a, b]) = sumB P (W * H).toNat (fun i => decide ((i : Int) ∈ area W H G a) || decide ((i : Int) ∈ area W H G b)) := by
    rw [total_sumB (n := (W * H).toNat) (fun x hx => by have := reachL_in x hx; omega)]
    refine sumB_congr fun i _ => ?_
    rw [Bool.eq_iff_iff, Bool.or_eq_true, decide_eq_true_eq, decide_eq_true_eq, decide_eq_true_eq]
    simp [reachL]
  have e2 : ((over W H G a b).map (pv P)).sum = sumB P (W * H).toNat (fun i => decide ((i : Int) ∈ area W H G a) && decide ((i : Int) ∈ area W H G b)) := by
    rw [← total_sum (over_nodup W H G a b), total_sumB (n := (W * H).toNat) (fun x hx => area_inN x (over_mem.1 hx).1)]
    refine sumB_congr fun i _ => ?_
    rw [Bool.eq_iff_iff, Bool.and_eq_true, decide_eq_true_eq, decide_eq_true_eq, decide_eq_true_eq]
    exact over_mem
  have e3 := sumB_incl P (fun (i : Nat) => decide ((i : Int) ∈ area W H G a)) (fun (i : Nat) => decide ((i : Int) ∈ area W H G b)) (W * H).toNat
  rw [e1, e2, total_sumB (l := area W H G a) area_inN, total_sumB (l := area W H G b) area_inN]
  omega
theorem area_more (W H : Int) (G : List Int) (a : St) {more : Int} (h : 0 ≤ more) : both (area W H G a) (area W H G (strg a more)) = area W H G a := by
  refine both_sub (area_nodup _ _ _ _) ?_
  rw [area_def, area_def]
  refine cast_sub _ fun i hi => ?_
  unfold cov at *
  rw [decide_eq_true_eq] at *
  rw [strg_field]
  show thr a.band ≤ _
  omega
theorem tot_self (W : Int) (G : List Int) (x y f t : Int) : tot W G x y f x y t = 0 := by
  unfold tot
  have h1 : sq x y x y = 0 := by unfold sq; simp
  have h2 : obst W G x y f x y t = [] := by
    unfold obst
    have : lineN x y x y = 0 := by unfold lineN span; simp
    rw [this]; rfl
  rw [h1, h2]
  simp [free]
  decide
theorem field_self (W : Int) (G : List Int) (s : St) : field W G s s.x s.y = s.pw := by
  unfold field
  rw [tot_self, Int.sub_self, Int.sub_self, aloss_zero]
  omega
theorem field_le {W H : Int} {G P : List Int} {s : St} {cx cy : Int} (h : okF W H G P s cx cy = true) : field W G s cx cy ≤ s.pw := by
  unfold okF at h
  rw [Bool.and_eq_true] at h
  obtain ⟨-, -, -, h4, -, -, hav⟩ := svalid_iff.1 h.1
  have h1 := aloss_bd (avalid_iff.1 hav).2.2 (cx - s.x) (cy - s.y)
  have h2 := tot_bd h.2
  unfold field
  omega
theorem cov_self (W : Int) (G : List Int) (a : St) : cov W G a a.x a.y = decide (thr a.band ≤ a.pw) := by
  unfold cov
  rw [field_self]
theorem cell_lt {W H : Int} {i : Nat} (hW : 1 ≤ W) (hi : i < (W * H).toNat) : 0 ≤ cx W i ∧ cx W i < W ∧ 0 ≤ cy W i ∧ cy W i < H := by
  unfold cx cy
  have h1 : (i : Int) < W * H := by omega
  refine ⟨Int.emod_nonneg _ (by omega), Int.emod_lt_of_pos _ (by omega), Int.ediv_nonneg (by omega) (by omega), ?_⟩
  rw [Int.ediv_lt_iff_lt_mul (by omega), Int.mul_comm]
  exact h1
theorem area_some {W H : Int} {G P : List Int} {a : St} (h : okS W H G P a = true) : decide (0 < (area W H G a).length) = decide (thr a.band ≤ a.pw) := by
  obtain ⟨hv, ht, hx, hy⟩ := okS_iff.1 h
  obtain ⟨r1, r2, -⟩ := tvalid_iff.1 ht
  obtain ⟨-, x1, y1, -⟩ := svalid_iff.1 hv
  rw [decide_eq_decide]
  constructor
  · intro h0
    obtain ⟨x, hxm⟩ := List.exists_mem_of_length_pos h0
    rw [area_def] at hxm
    obtain ⟨i, hi, rfl⟩ := List.mem_map.1 hxm
    rw [List.mem_filter, List.mem_range] at hi
    obtain ⟨c1, c2, c3, c4⟩ := cell_lt r1.1 hi.1
    have h2 := hi.2
    unfold cov at h2
    rw [decide_eq_true_eq] at h2
    have := field_le (okS_F h c1 c2 c3 c4)
    omega
  · intro h0
    have e : ((a.x + a.y * W).toNat : Int) = a.x + a.y * W := by
      have : 0 ≤ a.y * W := Int.mul_nonneg (by omega) (by omega)
      omega
    have hlt : a.x + a.y * W < W * H := by
      have : (a.y + 1) * W ≤ H * W := Int.mul_le_mul_of_nonneg_right (by omega) (by omega)
      rw [Int.add_mul, Int.one_mul] at this
      rw [Int.mul_comm W H]
      omega
    have hm : ((a.x + a.y * W).toNat : Int) ∈ area W H G a := by
      rw [area_mem]
      refine ⟨by omega, ?_⟩
      have e1 : cx W (a.x + a.y * W).toNat = a.x := by
        unfold cx
        rw [e, Int.add_mul_emod_self_right]
        exact Int.emod_eq_of_lt (by omega) (by omega)
      have e2 : cy W (a.x + a.y * W).toNat = a.y := by
        unfold cy
        rw [e, Int.add_mul_ediv_right _ _ (by omega), Int.ediv_eq_zero_of_lt (by omega) (by omega)]
        omega
      rw [e1, e2, cov_self]
      exact decide_eq_true h0
    exact List.length_pos_of_mem hm
end M
end Go.Proofs.YtihepapjopcagaaGreatDoor
end

/- Layer 7: the text of the set {1}; the library's AppendInt at 1. -/
section
namespace Go.Proofs.YtihepapjopcagaaGreatDoor
open Go Go.RowKit
set_option maxRecDepth 100000

theorem byteInfo : (Tryz.prog.info? 5).map (fun i => (i.zero, i.size, i.bytes)) = some (some (.int .u8 0), 1, 1) := by kernel_rfl
/-- A cell that holds a byte. -/
def ucell (x : UInt8) (_ : Nat) : Value := .int .u8 x.toNat

set_option maxHeartbeats 4000000 in
theorem small1 (w : World) : Calls Tryz.prog 119 #[.int .i64 1] w fun e w' => e = .returned (.string ⟨#[49]⟩) ∧ w = w' := by
  go_enter Tryz.func119, Tryz.ntmps119
  go_wp2_with fail
  go_ret
  exact ⟨rfl, rfl⟩

set_option maxHeartbeats 4000000 in
theorem appendInt1 (base : Nat) (v : Value) (n : Nat) (xs : List UInt8) (w : World) (hown : w.ownsRow base 5 1 v n (flat 1 ucell xs)) (hn : n ≤ 1000) (hb : base ≤ w.heap.size) :
    Calls Tryz.prog 54 #[v, .int .i64 1, .int .i64 10] w fun e w' => ∃ v', e = .returned v' ∧ w'.ownsRow base 5 1 v' (n + 1) (flat 1 ucell (xs ++ [49])) ∧ w.grownBy w' v.ownBlock := by
  obtain ⟨i0, hi, hz0, hz1, hz2⟩ := info_parts byteInfo
  have Hi := Lib.hid hi; have Hz0 := Lib.hid hz0; have Hz1 := Lib.hid hz1; have Hz2 := Lib.hid hz2
  clear hi hz0 hz1 hz2
  have kU : Calls Tryz.prog 93 #[v, .int .u64 1, .int .i64 10] w fun e w' => ∃ v', e = .returned v' ∧ w'.ownsRow base 5 1 v' (n + 1) (flat 1 ucell (xs ++ [49])) ∧ w.grownBy w' v.ownBlock := by
    go_enter Tryz.func93, Tryz.ntmps93
    go_wp2_with (first
      | (go_at_call 119; refine (small1 w).mono ?_; rintro e w9 ⟨rfl, rfl⟩)
      | (at_builtin; refine Lib.wpList_append_own_string w rfl _ _ 92 9 rfl base 5 i0 Tryz.underlying92 Tryz.underlying9 Hi.out Hz0.out Hz1.out Hz2.out v n _ rfl hown ⟨#[49]⟩ rfl (by unfold maxLen; show n + 1 ≤ _; omega) (by show n + 1 ≤ _; omega) hb ?_; intro v' w1 hown1 hg1 hnil1))
    go_ret
    refine ⟨v', rfl, ?_, hg1⟩
    rw [flat_append]
    exact hown1
  have kI : Calls Tryz.prog 77 #[v, .int .i64 1, .int .i64 10] w fun e w' => ∃ v', e = .returned v' ∧ w'.ownsRow base 5 1 v' (n + 1) (flat 1 ucell (xs ++ [49])) ∧ w.grownBy w' v.ownBlock := by
    go_enter Tryz.func77, Tryz.ntmps77
    go_wp2_with (go_at_call 93; refine kU.mono ?_; rintro e w1 ⟨v', rfl, h1, h2⟩)
    go_ret
    exact ⟨v', rfl, h1, h2⟩
  go_enter Tryz.func54, Tryz.ntmps54
  go_wp2_with (go_at_call 77; refine kI.mono ?_; rintro e w1 ⟨v', rfl, h1, h2⟩)
  go_ret
  exact ⟨v', rfl, h1, h2⟩

/-- The text behind the members that have come up. -/
def bsT : List Nat → List UInt8
  | [] => [123]
  | _ => [123, 49]
theorem els2 : Bs.els 2 0 = [1] := by decide +kernel
theorem one_split {pre post : List Nat} {x : Nat} (h : [1] = pre ++ x :: post) : pre = [] ∧ x = 1 ∧ post = [] := by
  cases pre with
  | nil => simp at h; exact ⟨rfl, h.1.symm, h.2⟩
  | cons y pre => simp at h

set_option maxHeartbeats 8000000 in
theorem bsText1 (w : World) (ht : Tab64 w) : Calls Tryz.prog 36 #[bsv 2] w fun e w' => e = .returned (.string ⟨#[123, 49, 125]⟩) ∧ Below w.heap.size w w' := by
  obtain ⟨V, HW, x0, hB, -⟩ := boxes1 w (bsc 2) 60
  obtain ⟨i0, hi, hz0, hz1, hz2⟩ := info_parts byteInfo
  have Hi := Lib.hid hi; have Hz0 := Lib.hid hz0; have Hz1 := Lib.hid hz1; have Hz2 := Lib.hid hz2
  clear hi hz0 hz1 hz2
  obtain ⟨c0, c1, c2, c3, c4, c5, c6, c7⟩ := x0.w
  obtain ⟨X, HX, u0, uX, hbX, hsX⟩ := boxes2 V #[.int .u8 123] 5 #[.slice (some ⟨V.heap.size, 0, none⟩) 1 1] 92
  have BX := after_ hB hbX
  have yX := x0.below hbX
  have hownX : X.ownsRow w.heap.size 5 1 (.slice (some ⟨V.heap.size, 0, none⟩) 1 1) 1 (flat 1 ucell [123]) := by
    refine ⟨by simp [flat], .inr ⟨V.heap.size, 1, #[.int .u8 123], rfl, hB.size, u0, ?_, ?_, ?_, ?_⟩⟩
    all_goals first | decide | rfl | simp [flat, ucell]
  clear c0 c1 c2 c3 c4 c5 c6 c7
  obtain ⟨c0, c1, c2, c3, c4, c5, c6, c7⟩ := yX.w
  have hV := HW.out
  have hX := HX.out
  refine calls_marks Tryz.func36 rfl ?_
  simp only [Tryz.ntmps36, List.size_toArray, List.length_cons, List.length_nil, Nat.reduceAdd, Nat.reduceSub, Array.replicate_succ, Array.replicate_zero, List.push_toArray, List.append_toArray, List.nil_append, List.cons_append]
  go_wp2_with fail
  clear hV hX c0 c1 c2 c3 c4 c5 c6 c7
  refine (bsAll_ok 2 X).mono ?_
  rintro e w4 ⟨rfl, hb4, hs4, xb⟩
  have B4 := after_ BX hb4
  have u4 := uX.below hb4
  have hown4 := own_below hownX hb4
  have hVX : V.heap.size + 2 = X.heap.size := hsX.symm
  clear u0 uX yX x0 hownX hsX
  go_wp2_with fail
  refine wp_range (gf := 74) (lb := #[.pointer (some ⟨X.heap.size, 0, none⟩)]) rfl (enters_of Tryz.func74 (by kernel_rfl) rfl) (bsAll_seq X.heap.size 2) (fun _ => rfl)
    (fun pre W => ∃ v, Box W (V.heap.size + 1) #[v] 92 ∧ W.ownsRow w.heap.size 5 1 v (bsT pre).length (flat 1 ucell (bsT pre)) ∧ Below w.heap.size w W ∧ Box W X.heap.size (bsc 2) 60) (fun _ _ _ => False)
    ?hI (fun _ _ _ _ _ h => h.elim) ?hK ⟨_, u4, hown4, B4, xb⟩ ?round ?done (fun _ _ _ h => h.elim)
  case hI => exact fun pre W W' row ⟨v, h1, h2, h3, h4⟩ hg hr => ⟨v, h1.own hg hr, row_own h2 hg hr, below_own h3 B4.size h3.size hg hr, h4.own hg hr⟩
  case hK => exact fun pre W ⟨v, h1, h2, h3, h4⟩ => ⟨h4, ht.kept h3⟩
  case round =>
    intro r' pre x post W hL hl hd hi
    rw [els2] at hL
    obtain ⟨rfl, rfl, rfl⟩ := one_split hL
    clear hL
    gi_wp2
    refine ⟨hl, hd, hi, fun _ => True, fun _ _ _ _ _ _ _ => trivial, trivial, ?_⟩
    clear hl hd hi
    rintro r'' W2 hl hd ⟨v, h1, h2, h3, h4⟩ -
    have c1 := h1.c1
    have f1 := h1.frozen 0
    obtain ⟨g, gc, rfl⟩ := ownsRow_succ h2
    gi_wp2_with fail
    refine ⟨trivial, ?_⟩
    refine (callsIn_wide.2 (appendInt1 w.heap.size _ 1 [123] W2 h2 (by omega) h3.size)).mono ?_
    rintro e w' ⟨v', rfl, hown', hg'⟩
    have h1' := h1.grown hg' (h1.ne_own (by decide) h2)
    clear c1 f1
    have c2 := h1'.c1
    have f2 := h1'.frozen 0
    obtain ⟨g', cap', rfl⟩ := ownsRow_succ hown'
    gi_wp2_with fail
    have hl' := hl.grown hg' (Hold.ne_own hl rfl h2)
    have hd' := hd.grown hg' (Hold.ne_own hd rfl h2)
    have h4' := h4.grown hg' (h4.ne_own (by decide) h2)
    have hb' : Below w.heap.size w w' := h3.grown hg' h3.size (fun k hk => (h2.lt k hk).1)
    refine ⟨hl'.set_other (hl'.ne_box rfl h1') _, hd'.set_other (hd'.ne_box rfl h1') _, _, h1'.set 0 _, ?_, hb'.setCell (p := ⟨V.heap.size + 1, 0, none⟩) (by have := hB.size; dsimp only; omega) _, h4'.set_other (p := ⟨V.heap.size + 1, 0, none⟩) (by dsimp only; omega) _⟩
    exact hown'.kept (grownBy_setCell' w' (V.heap.size + 1) (.slice (some ⟨g', 0, none⟩) 2 cap')) (.inr (fun e => h1'.ne_own (by decide) hown' e.symm))
  case done =>
    rintro W ⟨v, h1, h2, h3, h4⟩ hD
    rw [els2] at h2
    have h2 : W.ownsRow w.heap.size 5 1 v 2 (flat 1 ucell [123, 49]) := h2
    rw [hs4] at hD
    have c1 := h1.c1
    obtain ⟨g, gc, rfl⟩ := ownsRow_succ h2
    go_wp2_with (at_builtin; refine wpList_push (w0 := w) (cell := ucell) (y := (125 : UInt8)) rfl _ _ _ rfl w.heap.size w.heap.size 5 i0 _ 1 Tryz.underlying92 Hi.out Hz0.out Hz1.out Hz2.out rfl (by decide) _ _ _ rfl h2 _ _ rfl _ rfl (fun _ => rfl) (by unfold maxLen; omega) (by omega) h3.size (Nat.le_refl _) h3 ?_; intro v' w' hown' hb' hg'; obtain ⟨g', cap', rfl⟩ := ownsRow_succ hown'; have hcv := run_convert_bytes_back (P := Tryz.prog) w' 92 9 5 ⟨g', 0, none⟩ cap' [123, 49, 125] Tryz.underlying92 Tryz.underlying5 Tryz.underlying9 (fun j hj => hown'.cells (g := g') rfl j _ (by rcases j with _ | _ | _ | j <;> first | rfl | (simp at hj; omega))); simp only [List.length_cons, List.length_nil, Nat.zero_add, Nat.reduceAdd] at hcv)
    refine leaves_marks (B := w.heap.size) _ _ (Marks.none_.cons (C := w.heap.size) (by have := BX.size; omega) (by have := BX.size; omega) (hD.grown hg' (Hold.ne_own hD rfl h2))) (fun W' hs => ⟨_, results_tmp rfl _ _ _, ?_⟩)
    exact ⟨rfl, hb'.trans (hs.below.mono (Nat.le_refl _))⟩
end Go.Proofs.YtihepapjopcagaaGreatDoor
end

/- The examples of layer 14's chapter, reckoned. -/
section
namespace Go.Proofs.YtihepapjopcagaaGreatDoor
open Go Go.RowKit
set_option maxRecDepth 100000
def M.zG : List Int := List.replicate 9 0
def M.zP : List Int := List.replicate 9 10
def M.s81 : St := M.mk14 1 4 81 20
def M.s82 : St := M.mk14 1 4 82 20
def M.s94 : St := M.mk14 1 4 94 20
def M.s101 : St := M.mk14 1 4 101 20
def M.s91 : St := M.mk14 1 4 91 7
def M.a94 : St := M.mk14 2 6 94 20
theorem M.o81 : M.okS 9 1 M.zG M.zP M.s81 = true := by decide +kernel
theorem M.o82 : M.okS 9 1 M.zG M.zP M.s82 = true := by decide +kernel
theorem M.o94 : M.okS 9 1 M.zG M.zP M.s94 = true := by decide +kernel
theorem M.o101 : M.okS 9 1 M.zG M.zP M.s101 = true := by decide +kernel
theorem M.o91 : M.okS 9 1 M.zG M.zP M.s91 = true := by decide +kernel
theorem M.oa94 : M.okS 9 1 M.zG M.zP M.a94 = true := by decide +kernel
theorem M.ar81 : M.area 9 1 M.zG M.s81 = [] := by decide +kernel
theorem M.ar82 : M.area 9 1 M.zG M.s82 = [3, 4, 5] := by decide +kernel
theorem M.ar94 : M.area 9 1 M.zG M.s94 = [2, 3, 4, 5, 6] := by decide +kernel
theorem M.ar101 : M.area 9 1 M.zG M.s101 = [1, 2, 3, 4, 5, 6, 7] := by decide +kernel
theorem M.pe101 : M.total M.zP (M.area 9 1 M.zG M.s101) = 70 := by decide +kernel
theorem M.pe91 : M.total M.zP (M.area 9 1 M.zG M.s91) = 70 := by decide +kernel
theorem M.ov94 : M.over 9 1 M.zG M.s94 M.a94 = [4, 5, 6] := by decide +kernel
theorem M.re94 : M.total M.zP (M.reachL 9 1 M.zG [M.s94, M.a94]) = 70 := by decide +kernel
theorem M.sv94 : M.servN 9 M.zG 2 0 [M.s94, M.a94] = 2 := by decide +kernel
theorem M.has2 : M.has 9 1 M.zG M.zP 2 0 = true := by decide +kernel
theorem M.tvz : M.tvalid 9 1 M.zG M.zP = true := by decide +kernel

theorem alloc_below (w : World) (o : Obj) : Below w.heap.size w (w.alloc o) := (Below.refl _ _).alloc (Nat.le_refl _) _

/-- What known holds behind its terrain. -/
structure KW14 (w0 W : World) (b : Nat) (GA PA : Option Addr) (gc pc : Nat) : Prop where
  t : Box W b #[.int .i64 9, .int .i64 1, .slice GA 9 gc, .slice PA 9 pc] 30
  g : Sl 1 icell W W.heap.size GA M.zG
  p : Sl 1 icell W W.heap.size PA M.zP
  tab : Tab W
  tab64 : Tab64 W
  below : Below w0.heap.size w0 W
section
variable {w0 W W' : World} {b : Nat} {GA PA : Option Addr} {gc pc : Nat}
theorem KW14.next (h : KW14 w0 W b GA PA gc pc) (hb : Below W.heap.size W W') : KW14 w0 W' b GA PA gc pc :=
  ⟨h.t.below hb, (h.g.below hb).more hb.size, (h.p.below hb).more hb.size, h.tab.kept hb, h.tab64.kept hb, after_ h.below hb⟩
theorem KW14.held (h : KW14 w0 W b GA PA gc pc) : W.cell? ⟨b, 0, none⟩ = some (.int .i64 9) ∧ W.cell? ⟨b, 1, none⟩ = some (.int .i64 1) ∧ W.cell? ⟨b, 2, none⟩ = some (.slice GA 9 gc) ∧ W.cell? ⟨b, 3, none⟩ = some (.slice PA 9 pc) := h.t.c4
theorem KW14.area (h : KW14 w0 W b GA PA gc pc) (s : St) (l : List Int) (hok : M.okS 9 1 M.zG M.zP s = true) (he : M.area 9 1 M.zG s = l) {A : Option Addr} {c : Nat} (hS : Sl 1 icell W W.heap.size A s.pat) {LA : Option Addr} {lc n : Nat} (hl : Sl 1 icell W W.heap.size LA l) (hn : l.length = n) :
    Calls Tryz.prog 34 #[tv 9 1 GA PA 9 gc 9 pc, stv s A c, .slice LA n lc] W fun e w' => e = .returned (.bool true) ∧ Below W.heap.size W w' := by
  subst hn
  exact area14_ok 9 1 GA PA gc pc M.zG M.zP s A c LA lc l W h.tab h.g h.p hS hl hok he
theorem KW14.people (h : KW14 w0 W b GA PA gc pc) (s : St) (z : Int) (hok : M.okS 9 1 M.zG M.zP s = true) (he : M.total M.zP (M.area 9 1 M.zG s) = z) {A : Option Addr} {c : Nat} (hS : Sl 1 icell W W.heap.size A s.pat) :
    Calls Tryz.prog 13 #[tv 9 1 GA PA 9 gc 9 pc, stv s A c] W fun e w' => e = .returned (.tuple #[.int .i64 z, .int .i64 0]) ∧ Below W.heap.size W w' := by
  rw [← he]
  exact people_ok 9 1 GA PA gc pc M.zG M.zP s A c W h.tab h.g h.p hS hok
end
theorem madeK (id x pw ch : Int) (s : St) (hs : M.mk14 id x pw ch = s) (w : World) : Calls Tryz.prog 35 #[.int .i64 id, .int .i64 x, .int .i64 pw, .int .i64 ch] w fun e w' => ∃ A c, e = .returned (stv s A c) ∧ Sl 1 icell w' w'.heap.size A s.pat ∧ Below w.heap.size w w' := by
  subst hs
  refine (made14_ok id x pw ch w).mono ?_
  rintro e w' ⟨A, c, rfl, o, hb⟩
  exact ⟨A, c, rfl, Sl.of_own (by decide) o, hb⟩
theorem pats2 {w : World} {s t : St} {A B : Option Addr} {c d : Nat} (h : Sl 1 icell w w.heap.size A s.pat) (h2 : Sl 1 icell w w.heap.size B t.pat) : Pats w [⟨s, A, c⟩, ⟨t, B, d⟩] := fun e he => by
  rcases List.mem_cons.1 he with rfl | he
  · exact h
  · obtain rfl : e = ⟨t, B, d⟩ := by simpa using he
    exact h2
theorem okE2 {W H : Int} {G P : List Int} {s t : St} {A B : Option Addr} {c d : Nat} (h : M.okS W H G P s = true) (h2 : M.okS W H G P t = true) : ∀ e ∈ ([⟨s, A, c⟩, ⟨t, B, d⟩] : List SE), M.okS W H G P e.s = true := fun e he => by
  rcases List.mem_cons.1 he with rfl | he
  · exact h
  · obtain rfl : e = ⟨t, B, d⟩ := by simpa using he
    exact h2
set_option maxHeartbeats 4000000 in
theorem threshold_no (b : Int) (w : World) (h : ¬ (b = 1 ∨ b = 2 ∨ b = 3)) : Calls Tryz.prog 8 #[.int .i64 b] w fun e w' => e = .returned (.tuple #[.int .i64 0, .int .i64 2]) ∧ w = w' := by
  have q1 : (b == 1) = false := by simp; omega
  have q2 : (b == 2) = false := by simp; omega
  have q3 : (b == 3) = false := by simp; omega
  go_enter Tryz.func8, Tryz.ntmps8
  go_wp2_with fail
  go_ret2
  exact ⟨rfl, rfl⟩
end Go.Proofs.YtihepapjopcagaaGreatDoor
end
