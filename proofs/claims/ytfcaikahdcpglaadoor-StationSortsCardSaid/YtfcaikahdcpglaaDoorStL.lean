/- Layer 13: lists of stations; terrain.Has; Find. -/
import Derived.Test.YtfcaikahdcpglaaDoorStA
namespace Go.Proofs.YtfcaikahdcpglaaDoor
open Go Go.RowKit
set_option maxRecDepth 100000

/-- A station in memory: the station, and where its pattern lies. -/
structure SE where
  s : St
  A : Option Addr
  c : Nat
def secell (e : SE) (j : Nat) : Value := ((stc e.s e.A e.c)[j]?).getD (.int .i64 0)
theorem se_one (e : SE) (j : Nat) : (secell e j).oneCell' = true := by
  unfold secell
  match j with
  | 0 | 1 | 2 | 3 | 4 | 5 | 6 | 7 => rfl
  | j + 8 => simp; rfl
theorem seInfo : (Tryd.prog.info? 28).map (fun i => (i.zero, i.size, i.bytes)) = some (some (.agg #[.int .i64 0, .int .i64 0, .int .i64 0, .int .i64 0, .int .i64 0, .slice none 0 0, .int .i64 0, .int .i64 0]), 8, 80) := by kernel_rfl
/-- The patterns of stations in memory. -/
def Pats (w : World) (es : List SE) : Prop := ∀ e ∈ es, Sl 1 icell w w.heap.size e.A e.s.pat
theorem Pats.below {w w' : World} {es : List SE} (h : Pats w es) (hb : Below w.heap.size w w') : Pats w' es := fun e he => ((h e he).below hb).more hb.size
theorem Pats.at_ {w : World} {es : List SE} (h : Pats w es) {k : Nat} (hk : k < es.length) : Sl 1 icell w w.heap.size es[k].A es[k].s.pat := h _ (List.getElem_mem hk)
theorem Sl.st8 {w : World} {B : Nat} {LA : Option Addr} {es : List SE} {k : Nat} (h : Sl 8 secell w B LA es) (hk : k < es.length) :
    ∃ la, LA = some la ∧ (la.add (k * 8)).block < B ∧ w.cell? (la.add (k * 8)) = some (.int .i64 es[k].s.id) ∧ w.cell? ⟨(la.add (k * 8)).block, (la.add (k * 8)).off + 1, none⟩ = some (.int .i64 es[k].s.x) ∧ w.cell? ⟨(la.add (k * 8)).block, (la.add (k * 8)).off + 2, none⟩ = some (.int .i64 es[k].s.y)
      ∧ w.cell? ⟨(la.add (k * 8)).block, (la.add (k * 8)).off + 3, none⟩ = some (.int .i64 es[k].s.pw) ∧ w.cell? ⟨(la.add (k * 8)).block, (la.add (k * 8)).off + 4, none⟩ = some (.int .i64 es[k].s.h) ∧ w.cell? ⟨(la.add (k * 8)).block, (la.add (k * 8)).off + 5, none⟩ = some (.slice es[k].A es[k].s.pat.length es[k].c)
      ∧ w.cell? ⟨(la.add (k * 8)).block, (la.add (k * 8)).off + 6, none⟩ = some (.int .i64 es[k].s.band) ∧ w.cell? ⟨(la.add (k * 8)).block, (la.add (k * 8)).off + 7, none⟩ = some (.int .i64 es[k].s.ch) := by
  obtain ⟨la, e, hb, h0, hj⟩ := h.sp (by decide) hk
  exact ⟨la, e, hb, h0, hj 1 (by decide) (by decide), hj 2 (by decide) (by decide), hj 3 (by decide) (by decide), hj 4 (by decide) (by decide), hj 5 (by decide) (by decide), hj 6 (by decide) (by decide), hj 7 (by decide) (by decide)⟩

set_option maxHeartbeats 2000000 in
theorem inside_some (W H : Int) (GA PA : Option Addr) (gl gc pl pc : Nat) (x y : Int) (w : World) :
    Calls Tryd.prog 52 #[tv W H GA PA gl gc pl pc, cv x y] w fun e w' => ∃ b : Bool, e = .returned (.bool b) ∧ Below w.heap.size w w' := by
  have hB0 := (Below.refl w.heap.size w).alloc (Nat.le_refl _) (.cells #[.int .i64 W, .int .i64 H, .slice GA gl gc, .slice PA pl pc] 24)
  have hB1 := hB0.alloc hB0.size (.cells #[.int .i64 x, .int .i64 y] 30)
  go_enter Tryd.func52, Tryd.ntmps52
  go_wp2_with fail
  refine (within_any x 0 _ _).mono ?_
  rintro e w1 ⟨rfl, rfl⟩
  generalize M.isIn x 0 _ = b
  cases b with
  | false =>
    go_wp2_with fail
    go_ret
    exact ⟨false, rfl, hB1⟩
  | true =>
    go_wp2_with fail
    refine (within_any y 0 _ _).mono ?_
    rintro e w1 ⟨rfl, rfl⟩
    generalize M.isIn y 0 _ = q
    go_wp2_with fail
    go_ret
    exact ⟨q, rfl, hB1⟩

set_option maxHeartbeats 4000000 in
theorem has_any (W H : Int) (GA PA : Option Addr) (gc pc : Nat) (G P : List Int) (x y : Int) (w : World) (hg : Sl 1 icell w w.heap.size GA G) (hp : Sl 1 icell w w.heap.size PA P) (hgl : G.length ≤ 9223372036854775806) (hpl : P.length ≤ 9223372036854775806) :
    Calls Tryd.prog 36 #[tv W H GA PA G.length gc P.length pc, cv x y] w fun e w' => e = .returned (.bool (M.has W H G P x y)) ∧ Below w.heap.size w w' := by
  obtain ⟨V, HW, x0, x1, hB, -⟩ := boxes2 w #[.int .i64 W, .int .i64 H, .slice GA G.length gc, .slice PA P.length pc] 24 #[.int .i64 x, .int .i64 y] 30
  have hg1 := (hg.below hB).more hB.size
  have hp1 := (hp.below hB).more hB.size
  by_cases hr : (1 ≤ W ∧ W ≤ 64) ∧ (1 ≤ H ∧ H ≤ 64)
  · obtain ⟨r1, r2⟩ := hr
    obtain ⟨r, hr⟩ : ∃ r, M.has W H G P x y = r := ⟨_, rfl⟩
    have HR := Lib.hid hr
    rw [hr]
    clear hr
    go_enter Tryd.func36, Tryd.ntmps36
    go_wp2_with fail
    rw [HW.out]
    refine (inside_any W H GA PA G.length gc P.length pc x y V r1 r2).mono ?_
    rintro e w1 ⟨rfl, hb1⟩
    have B1 := after_ hB hb1
    cases hi : M.inside W H x y with
    | false =>
      have HF : Hid (false = r) := Lib.hid (by rw [← HR.out]; unfold M.has; rw [hi, Bool.and_false])
      go_wp2_with fail
      go_ret
      exact ⟨ret_bool HF.out, B1⟩
    | true =>
      obtain ⟨c0, c1, c2, c3⟩ := (x0.below hb1).c4
      have HF : Hid (M.tvalid W H G P = r) := Lib.hid (by rw [← HR.out]; unfold M.has; rw [hi, Bool.and_true])
      go_wp2_with fail
      refine (tvalid_any W H GA PA gc pc G P w1 ((hg1.below hb1).more hb1.size) ((hp1.below hb1).more hb1.size) hgl hpl).mono ?_
      rintro e w2 ⟨rfl, hb2⟩
      rw [HF.out]
      go_wp2_with fail
      go_ret
      exact ⟨rfl, after_ B1 hb2⟩
  · have hv : M.tvalid W H G P = false := by
      cases hv : M.tvalid W H G P with
      | false => rfl
      | true => obtain ⟨b1, b2, _⟩ := M.tvalid_iff.1 hv; exact absurd ⟨b1, b2⟩ hr
    have HF : Hid (false = M.has W H G P x y) := Lib.hid (by unfold M.has; rw [hv]; rfl)
    have HV := Lib.hid hv
    clear hv hr
    go_enter Tryd.func36, Tryd.ntmps36
    go_wp2_with fail
    rw [HW.out]
    refine (inside_some W H GA PA G.length gc P.length pc x y V).mono ?_
    rintro e w1 ⟨b, rfl, hb1⟩
    have B1 := after_ hB hb1
    cases b with
    | false =>
      go_wp2_with fail
      go_ret
      exact ⟨ret_bool HF.out, B1⟩
    | true =>
      obtain ⟨c0, c1, c2, c3⟩ := (x0.below hb1).c4
      go_wp2_with fail
      refine (tvalid_any W H GA PA gc pc G P w1 ((hg1.below hb1).more hb1.size) ((hp1.below hb1).more hb1.size) hgl hpl).mono ?_
      rintro e w2 ⟨rfl, hb2⟩
      rw [HV.out]
      go_wp2_with fail
      go_ret
      exact ⟨ret_bool HF.out, after_ B1 hb2⟩

abbrev zst : St := ⟨0, 0, 0, 0, 0, [], 0, 0⟩
/-- A call that returns a station, whose pattern is the call's own, and an error number. -/
def RetStE (w : World) (s : St) (er : Int) (e : Ending) (w' : World) : Prop :=
  ∃ A c, e = .returned (.tuple #[stv s A c, .int .i64 er]) ∧ Sl 1 icell w' w'.heap.size A s.pat ∧ (∀ ad, A = some ad → w.heap.size ≤ ad.block) ∧ Below w.heap.size w w'
/-- The station that Find returns, and the error. -/
def M.find (l : List St) (id : Int) : St × Int := if id < 0 ∨ 511 < id then (zst, 2) else match l.find? (fun s => decide (s.id = id)) with
  | some s => (s, 0)
  | none => (zst, 9)

set_option maxHeartbeats 8000000 in
theorem find_any (LA : Option Addr) (lc : Nat) (es : List SE) (id : Int) (w : World) (hL : Sl 8 secell w w.heap.size LA es) (hP : Pats w es) (hl : es.length ≤ 9223372036854775806) (hpl : ∀ e ∈ es, e.s.pat.length ≤ 1000) :
    Calls Tryd.prog 18 #[.slice LA es.length lc, .int .i64 id] w (RetStE w (M.find (es.map (·.s)) id).1 (M.find (es.map (·.s)) id).2) := by
  obtain ⟨V, HW, x0, hB, hs⟩ := boxes1 w #[.int .i64 0, .int .i64 0, .int .i64 0, .int .i64 0, .int .i64 0, .slice none 0 0, .int .i64 0, .int .i64 0] 28
  have HS := Lib.hid hs
  clear hs
  by_cases h1 : id < 0
  · have q1 : decide (id < 0) = true := decide_eq_true h1
    have HF : Hid (M.find (es.map (·.s)) id = (zst, 2)) := Lib.hid (by unfold M.find; rw [if_pos (.inl h1)])
    rw [HF.out]
    go_enter Tryd.func18, Tryd.ntmps18
    go_wp2_with fail
    exact bodyPost_ret (v := .tuple #[stv zst none 0, .int .i64 2]) (by simp [results, Tryd.results18, go_sem]) rfl ⟨none, 0, rfl, Sl.nil_, fun _ h => (by cases h), by rw [HW.out]; exact hB⟩
  have q1 : decide (id < 0) = false := decide_eq_false h1
  by_cases h2 : 512 ≤ id
  · have q2 : decide (512 ≤ id) = true := decide_eq_true h2
    have HF : Hid (M.find (es.map (·.s)) id = (zst, 2)) := Lib.hid (by unfold M.find; rw [if_pos (.inr (by omega))])
    rw [HF.out]
    go_enter Tryd.func18, Tryd.ntmps18
    go_wp2_with fail
    exact bodyPost_ret (v := .tuple #[stv zst none 0, .int .i64 2]) (by simp [results, Tryd.results18, go_sem]) rfl ⟨none, 0, rfl, Sl.nil_, fun _ h => (by cases h), by rw [HW.out]; exact hB⟩
  have q2 : decide (512 ≤ id) = false := decide_eq_false h2
  have HM : Hid (∀ k (hk : k < es.length), (∀ j (hj : j < es.length), j < k → es[j].s.id ≠ id) → es[k].s.id = id → M.find (es.map (·.s)) id = (es[k].s, 0)) := Lib.hid (fun k hk hn he => by
    have hf : (es.map (·.s)).find? (fun s => decide (s.id = id)) = some es[k].s := by
      rw [List.find?_eq_some_iff_getElem]
      refine ⟨by simpa using he, k, by simpa using hk, by simp, fun j hj => ?_⟩
      have := hn j (by omega) hj
      simpa using this
    unfold M.find
    rw [if_neg (by omega), hf])
  have HZ : Hid ((∀ j (hj : j < es.length), es[j].s.id ≠ id) → M.find (es.map (·.s)) id = (zst, 9)) := Lib.hid (fun hn => by
    have hf : (es.map (·.s)).find? (fun s => decide (s.id = id)) = none := by
      rw [List.find?_eq_none]
      intro x hx
      obtain ⟨e, he, rfl⟩ := List.mem_map.1 hx
      obtain ⟨j, hj, rfl⟩ := List.getElem_of_mem he
      have := hn j hj
      simpa using this
    unfold M.find
    rw [if_neg (by omega), hf])
  have hP1 := hP.below hB
  go_enter Tryd.func18, Tryd.ntmps18
  go_wp2_with fail
  rw [HW.out]
  go_loopw [7, 17] (fun _ i wr => ∃ k : Nat, k ≤ es.length ∧ i = .int .i64 k ∧ Below V.heap.size V wr ∧ Hid (∀ j (hj : j < es.length), j < k → es[j].s.id ≠ id)) (fun _ i _ => es.length - (intOf i).toNat)
  case atStart => exact ⟨0, Nat.zero_le _, rfl, Below.refl _ _, Lib.hid (fun j _ h => absurd h (by omega))⟩
  case round =>
    obtain ⟨k, hk, rfl, hBr, HN⟩ := hrel
    have hBw := hB.trans (hBr.mono hB.size)
    by_cases hlt : k < es.length
    · obtain ⟨la, rfl, hlb, a0, a1, a2, a3, a4, a5, a6, a7⟩ := (hL.below hBw).st8 hlt
      have hS := (hP1.below hBr).at_ hlt
      have hpk := hpl _ (List.getElem_mem hlt)
      have HM2 := Lib.hid (HM.out k hlt HN.out)
      have HN2 : Hid (es[k].s.id ≠ id → ∀ j (hj : j < es.length), j < k + 1 → es[j].s.id ≠ id) := Lib.hid (fun h j h1 h3 => by
        by_cases e : j = k
        · subst e; exact h
        · exact HN.out j h1 (by omega))
      generalize es[k] = ek at *
      obtain ⟨s, A, c⟩ := ek
      simp only at a0 a1 a2 a3 a4 a5 a6 a7 hS hpk HM2 HN2
      obtain ⟨U, HU, u0, hBU, -⟩ := boxes1 wr (stc s A c) 28
      obtain ⟨b0, b1, b2, b3, b4, b5, b6, b7⟩ := u0.c8
      have hU := HU.out
      by_cases he : s.id = id
      · have q3 : (s.id == id) = true := by simp [he]
        have HFF := Lib.hid (HM2.out he)
        clear he
        go_wp2_with fail
        clear hU
        refine (sCopy_ok s A c U ((hS.below hBU).more hBU.size) hpk).mono ?_
        rintro e w1 ⟨A1, c1, rfl, hown, hb1⟩
        have B1 := after_ (after_ hBw hBU) hb1
        have y0 := (((x0.below hBr).below hBU).below hb1)
        obtain ⟨d0, d1, d2, d3, d4, d5, d6, d7⟩ := y0.c8
        have f0 := y0.frozen 0; have f1 := y0.frozen 1; have f2 := y0.frozen 2; have f3 := y0.frozen 3; have f4 := y0.frozen 4; have f5 := y0.frozen 5; have f6 := y0.frozen 6; have f7 := y0.frozen 7
        have hne : Hid (∀ ad, A1 = some ad → ad.block ≠ w.heap.size ∧ w.heap.size ≤ ad.block) := Lib.hid (fun ad h => by
          have h1 := (own_cap hown).2.2 ad h
          have h2 := ((x0.below hBr).below hBU).lt
          have := B1.size
          omega)
        have hSl := Sl.of_own (by decide) hown
        clear hown a0 a1 a2 a3 a4 a5 a6 a7
        go_wp2_with fail
        rw [HFF.out]
        refine bodyPost_ret (v := .tuple #[stv s A1 c1, .int .i64 0]) ?_ rfl ⟨A1, c1, rfl, ?_, fun ad h => (hne.out ad h).2, ?_⟩
        · simp [results, Tryd.results18, go_sem, d0, d1, d2, d3, d4, d5, d6, d7]
        · refine Sl.more ?_ (show w1.heap.size ≤ _ by simp)
          iterate 8 refine Sl.setFar ?_ (fun ad h => (hne.out ad h).1) _
          exact hSl
        · iterate 8 refine Below.setCell ?_ (by dsimp only; omega) _
          exact B1
      · have q3 : (s.id == id) = false := by simp [he]
        have HN3 := Lib.hid (HN2.out he)
        clear he
        go_wp2_with fail
        clear hU
        go_roundw
        case rel => exact ⟨k + 1, hlt, by go_num, after_ hBr hBU, HN3⟩
        case measure => simp [intOf]; omega
    · have hkl : k = es.length := by omega
      have HFF := Lib.hid (HZ.out (fun j hj => HN.out j hj (by omega)))
      have y0 := x0.below hBr
      obtain ⟨d0, d1, d2, d3, d4, d5, d6, d7⟩ := y0.c8
      have f0 := y0.frozen 0; have f1 := y0.frozen 1; have f2 := y0.frozen 2; have f3 := y0.frozen 3; have f4 := y0.frozen 4; have f5 := y0.frozen 5; have f6 := y0.frozen 6; have f7 := y0.frozen 7
      clear hkl
      go_wp2_with fail
      rw [HFF.out]
      refine bodyPost_ret (v := .tuple #[stv zst none 0, .int .i64 9]) ?_ rfl ⟨none, 0, rfl, Sl.nil_, fun _ h => (by cases h), ?_⟩
      · simp [results, Tryd.results18, go_sem, d0, d1, d2, d3, d4, d5, d6, d7]
      · iterate 8 refine Below.setCell ?_ (by dsimp only; omega) _
        exact hBw
end Go.Proofs.YtfcaikahdcpglaaDoor
