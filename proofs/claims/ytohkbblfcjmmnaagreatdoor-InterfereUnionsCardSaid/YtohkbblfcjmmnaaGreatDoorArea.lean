/- Layer 14: check, Area, People. -/
import Derived.Test.YtohkbblfcjmmnaaGreatDoorTot2
import Derived.Deep.RegionHeld3
namespace Go.Proofs.YtohkbblfcjmmnaaGreatDoor
open Go Go.RowKit Go.Shelf
set_option maxRecDepth 100000

/-- What check answers. -/
def M.chk (W H : Int) (G P : List Int) (l : List St) : Int := if (M.tvalid W H G P && l.all (M.okS W H G P)) = true then 0 else 2

set_option maxHeartbeats 8000000 in
theorem check_any (W H : Int) (GA PA : Option Addr) (gc pc : Nat) (G P : List Int) (LA : Option Addr) (lc : Nat) (es : List SE) (w : World) (hg : Sl 1 icell w w.heap.size GA G) (hp : Sl 1 icell w w.heap.size PA P) (hL : Sl 8 secell w w.heap.size LA es) (hP : Pats w es)
    (hgl : G.length ≤ 9223372036854775806) (hpl' : P.length ≤ 9223372036854775806) (hl : es.length ≤ 9223372036854775806) (hpl : ∀ e ∈ es, e.s.pat.length ≤ 1000) :
    Calls Tryz.prog 69 #[tv W H GA PA G.length gc P.length pc, .slice LA es.length lc] w fun e w' => e = .returned (.int .i64 (M.chk W H G P (es.map (·.s)))) ∧ Below w.heap.size w w' := by
  obtain ⟨V, HW, x0, hB, -⟩ := boxes1 w #[.int .i64 W, .int .i64 H, .slice GA G.length gc, .slice PA P.length pc] 24
  have hg1 := (hg.below hB).more hB.size
  have hp1 := (hp.below hB).more hB.size
  obtain ⟨r, hr⟩ : ∃ r, M.chk W H G P (es.map (·.s)) = r := ⟨_, rfl⟩
  have HNO : Hid (M.tvalid W H G P = false → 2 = r) := Lib.hid (fun h => by rw [← hr]; unfold M.chk; rw [h]; rfl)
  have HNK : Hid (∀ k (hk : k < es.length), M.okS W H G P es[k].s = false → 2 = r) := Lib.hid (fun k hk h => by
    rw [← hr]; unfold M.chk
    rw [if_neg]
    rw [Bool.and_eq_true, List.all_eq_true]
    intro h2
    have := h2.2 es[k].s (List.mem_map.2 ⟨_, List.getElem_mem hk, rfl⟩)
    rw [h] at this; cases this)
  have HYES : Hid (M.tvalid W H G P = true → (∀ k (hk : k < es.length), M.okS W H G P es[k].s = true) → 0 = r) := Lib.hid (fun h hk => by
    rw [← hr]; unfold M.chk
    rw [if_pos]
    rw [Bool.and_eq_true, List.all_eq_true]
    refine ⟨h, fun s hs => ?_⟩
    obtain ⟨e, he, rfl⟩ := List.mem_map.1 hs
    obtain ⟨j, hj, rfl⟩ := List.getElem_of_mem he
    exact hk j hj)
  rw [hr]
  clear hr
  go_enter Tryz.func69, Tryz.ntmps69
  go_wp2_with fail
  rw [HW.out]
  refine (tvalid_any W H GA PA gc pc G P V hg1 hp1 hgl hpl').mono ?_
  rintro e w1 ⟨rfl, hb1⟩
  have B1 := after_ hB hb1
  cases hc : M.tvalid W H G P with
  | false =>
    have HF := Lib.hid (HNO.out hc)
    go_wp2_with fail
    go_ret
    exact ⟨ret_int HF.out, B1⟩
  | true =>
    have y0 := x0.below hb1
    have HC := Lib.hid hc
    have HIF : Hid (∀ s, M.okS W H G P s = true ↔ M.svalid s = true ∧ s.x < W ∧ s.y < H) := Lib.hid (fun s => by
      rw [M.okS_iff]
      constructor
      · rintro ⟨a, b, c, d⟩; exact ⟨a, c, d⟩
      · rintro ⟨a, c, d⟩; exact ⟨a, hc, c, d⟩)
    clear hc
    go_wp2_with fail
    go_loopw [6, 12] (fun _ i wr => ∃ k : Nat, k ≤ es.length ∧ i = .int .i64 k ∧ Below w1.heap.size w1 wr ∧ Hid (∀ j (hj : j < es.length), j < k → M.okS W H G P es[j].s = true)) (fun _ i _ => es.length - (intOf i).toNat)
    case atStart => exact ⟨0, Nat.zero_le _, rfl, Below.refl _ _, Lib.hid (fun j _ h => absurd h (by omega))⟩
    case round =>
      obtain ⟨k, hk, rfl, hBr, HN⟩ := hrel
      have hBw := B1.trans (hBr.mono B1.size)
      by_cases hlt : k < es.length
      · obtain ⟨la, rfl, hlb, a0, a1, a2, a3, a4, a5, a6, a7⟩ := (hL.below hBw).st8 hlt
        have hS := (hP.below hBw).at_ hlt
        have hpk := hpl _ (List.getElem_mem hlt)
        have HK1 := Lib.hid (HNK.out k hlt)
        have HN2 : Hid (M.okS W H G P es[k].s = true → ∀ j (hj : j < es.length), j < k + 1 → M.okS W H G P es[j].s = true) := Lib.hid (fun h j h1 h3 => by
          by_cases e : j = k
          · subst e; exact h
          · exact HN.out j h1 (by omega))
        have HI := Lib.hid (HIF.out es[k].s)
        generalize es[k] = ek at *
        obtain ⟨s, A, c⟩ := ek
        simp only at a0 a1 a2 a3 a4 a5 a6 a7 hS hpk HK1 HN2 HI
        obtain ⟨U, HU, u0, hBU, -⟩ := boxes1 wr (stc s A c) 28
        obtain ⟨b0, b1, b2, b3, b4, b5, b6, b7⟩ := u0.c8
        have hU := HU.out
        have BU := after_ hBw hBU
        obtain ⟨c0, c1, c2, c3⟩ := ((y0.below hBr).below hBU).c4
        go_wp2_with fail
        clear hU
        refine (sValid_any s A c U ((hS.below hBU).more hBU.size) (by omega)).mono ?_
        rintro e w2 ⟨rfl, hb2⟩
        have B2 := after_ BU hb2
        cases hv : M.svalid s with
        | false =>
          have HF := Lib.hid (HK1.out (by
            cases ho : M.okS W H G P s with
            | false => rfl
            | true => have := (HI.out.1 ho).1; rw [hv] at this; cases this))
          go_wp2_with fail
          go_ret
          exact ⟨ret_int HF.out, B2⟩
        | true =>
          clear c0 c1 c2 c3 b0 b1 b2 b3 b4 b5 b6 b7
          obtain ⟨c0, c1, c2, c3⟩ := (((y0.below hBr).below hBU).below hb2).c4
          obtain ⟨b0, b1, b2, b3, b4, b5, b6, b7⟩ := (u0.below hb2).c8
          by_cases e1 : W ≤ s.x
          · have HF := Lib.hid (HK1.out (by
              cases ho : M.okS W H G P s with
              | false => rfl
              | true => have := (HI.out.1 ho).2.1; omega))
            have q1 : decide (W ≤ s.x) = true := decide_eq_true e1
            go_wp2_with fail
            go_ret
            exact ⟨ret_int HF.out, B2⟩
          have q1 : decide (W ≤ s.x) = false := decide_eq_false e1
          by_cases e2 : H ≤ s.y
          · have HF := Lib.hid (HK1.out (by
              cases ho : M.okS W H G P s with
              | false => rfl
              | true => have := (HI.out.1 ho).2.2; omega))
            have q2 : decide (H ≤ s.y) = true := decide_eq_true e2
            go_wp2_with fail
            go_ret
            exact ⟨ret_int HF.out, B2⟩
          have q2 : decide (H ≤ s.y) = false := decide_eq_false e2
          have HN3 := Lib.hid (HN2.out (HI.out.2 ⟨hv, by omega, by omega⟩))
          go_wp2_with fail
          go_roundw
          case rel => exact ⟨k + 1, hlt, by go_num, after_ (after_ hBr hBU) hb2, HN3⟩
          case measure => simp [intOf]; omega
      · have HF := Lib.hid (HYES.out HC.out (fun j hj => HN.out j hj (by omega)))
        go_wp2_with fail
        go_ret
        exact ⟨ret_int HF.out, hBw⟩

theorem pl1 {s : St} {A : Option Addr} {c : Nat} (h : s.pat.length ≤ 1000) : ∀ e ∈ ([⟨s, A, c⟩] : List SE), e.s.pat.length ≤ 1000 := fun e he => by
  obtain rfl : e = ⟨s, A, c⟩ := by simpa using he
  exact h
theorem pats1 {w : World} {s : St} {A : Option Addr} {c : Nat} (h : Sl 1 icell w w.heap.size A s.pat) : Pats w [⟨s, A, c⟩] := fun e he => by
  obtain rfl : e = ⟨s, A, c⟩ := by simpa using he
  exact h
/-- A call that returns a list of numbers and an error number. -/
theorem ret_le {A : Option Addr} {n m : Nat} {c : Nat} {z z' : Int} (h : n = m) (h2 : z = z') : Ending.returned (.tuple #[.slice A n c, .int .i64 z]) = .returned (.tuple #[.slice A m c, .int .i64 z']) := by rw [h, h2]

set_option maxHeartbeats 8000000 in
theorem area_no (W H : Int) (GA PA : Option Addr) (gc pc : Nat) (G P : List Int) (s : St) (A : Option Addr) (c : Nat) (w : World) (hg : Sl 1 icell w w.heap.size GA G) (hp : Sl 1 icell w w.heap.size PA P) (hS : Sl 1 icell w w.heap.size A s.pat)
    (hgl : G.length ≤ 9223372036854775806) (hpl' : P.length ≤ 9223372036854775806) (hpl : s.pat.length ≤ 1000) (hok : M.okS W H G P s = false) :
    Calls Tryz.prog 58 #[tv W H GA PA G.length gc P.length pc, stv s A c] w fun e w' => e = .returned (.tuple #[.slice none 0 0, .int .i64 2]) ∧ Below w.heap.size w w' := by
  obtain ⟨V, HW, x0, x1, hB, -⟩ := boxes2 w #[.int .i64 W, .int .i64 H, .slice GA G.length gc, .slice PA P.length pc] 24 (stc s A c) 28
  obtain ⟨U, HU, u0, hBU, -⟩ := boxes1 V (stc s A c) 28
  have BU := after_ hB hBU
  have hL : Sl 8 secell U U.heap.size (some ⟨V.heap.size, 0, none⟩) [⟨s, A, c⟩] := Sl.of_box u0 rfl
  have hPs : Pats U [⟨s, A, c⟩] := pats1 ((hS.below BU).more BU.size)
  have HC : Hid (M.chk W H G P (([⟨s, A, c⟩] : List SE).map (·.s)) = 2) := Lib.hid (by unfold M.chk; rw [if_neg (by simp [hok])])
  obtain ⟨c0, c1, c2, c3⟩ := x0.c4
  obtain ⟨b0, b1, b2, b3, b4, b5, b6, b7⟩ := x1.c8
  have hV := HW.out
  have hU := HU.out
  go_enter Tryz.func58, Tryz.ntmps58
  go_wp2_with fail
  clear hV hU
  refine (check_any W H GA PA gc pc G P (some ⟨V.heap.size, 0, none⟩) 1 [⟨s, A, c⟩] U ((hg.below BU).more BU.size) ((hp.below BU).more BU.size) hL hPs hgl hpl' (by simp) (pl1 hpl)).mono ?_
  rintro e w1 ⟨rfl, hb1⟩
  rw [HC.out]
  go_wp2_with fail
  go_ret2
  exact ⟨rfl, after_ BU hb1⟩

theorem held12 {w' : World} {b0 b1 : Nat} {W H : Int} {GA PA : Option Addr} {gc pc : Nat} {G P : List Int} {s : St} {A : Option Addr} {c : Nat} (h0 : Box w' b0 #[.int .i64 W, .int .i64 H, .slice GA G.length gc, .slice PA P.length pc] 24) (h1 : Box w' b1 (stc s A c) 28) :
    w'.cell? ⟨b0, 0, none⟩ = some (.int .i64 W) ∧ w'.cell? ⟨b0, 1, none⟩ = some (.int .i64 H) ∧ w'.cell? ⟨b0, 2, none⟩ = some (.slice GA G.length gc) ∧ w'.cell? ⟨b0, 3, none⟩ = some (.slice PA P.length pc) ∧ w'.cell? ⟨b1, 0, none⟩ = some (.int .i64 s.id) ∧ w'.cell? ⟨b1, 1, none⟩ = some (.int .i64 s.x) ∧ w'.cell? ⟨b1, 2, none⟩ = some (.int .i64 s.y) ∧ w'.cell? ⟨b1, 3, none⟩ = some (.int .i64 s.pw) ∧ w'.cell? ⟨b1, 4, none⟩ = some (.int .i64 s.h) ∧ w'.cell? ⟨b1, 5, none⟩ = some (.slice A s.pat.length c) ∧ w'.cell? ⟨b1, 6, none⟩ = some (.int .i64 s.band) ∧ w'.cell? ⟨b1, 7, none⟩ = some (.int .i64 s.ch) := by
  obtain ⟨c0, c1, c2, c3⟩ := h0.c4
  obtain ⟨d0, d1, d2, d3, d4, d5, d6, d7⟩ := h1.c8
  exact ⟨c0, c1, c2, c3, d0, d1, d2, d3, d4, d5, d6, d7⟩

theorem flat_ints (xs : List Int) : flat 1 icell xs = xs.map encI := by
  induction xs with
  | nil => rfl
  | cons x xs ih => simp only [flat, List.flatMap_cons, List.map_cons] at *; rw [ih]; rfl

theorem collect_area {wa wc : World} {bt bs : Nat} {W H : Int} {GA PA : Option Addr} {gc pc : Nat} {G P : List Int} {s : St} {A : Option Addr} {c : Nat} (h : Capt wa bt bs W H GA PA gc pc G P s A c) (T : TypeId) (b1 b2 bq : Nat) (hq : bq = wa.heap.size) (hbc : Below (wa.alloc (.cells #[fv bt bs] T)).heap.size (wa.alloc (.cells #[fv bt bs] T)) wc)
    (hb1 : Box wc b1 #[.int .i64 W, .int .i64 H, .slice GA G.length gc, .slice PA P.length pc] 24) (hb2 : Box wc b2 #[.slice (some ⟨bq, 0, none⟩) 1 1] 113) (hok : M.okS W H G P s = true) (hN : (W * H).toNat ≤ 4096) :
    Calls Tryz.prog 70 #[cvv b1 b2] wc (RetS 1 icell wc (M.area W H G s)) := by
  subst hq
  have x : Box (wa.alloc (.cells #[fv bt bs] T)) wa.heap.size #[fv bt bs] T := Box.new _ _ _
  have hb0 : Below wa.heap.size wa (wa.alloc (.cells #[fv bt bs] T)) := (Below.refl _ _).alloc (Nat.le_refl _) _
  have hc := (h.below hb0).below hbc
  have hca : Sl 1 vcell wc wc.heap.size (some ⟨wa.heap.size, 0, none⟩) [fv bt bs] := Sl.of_box (x.below hbc) rfl
  have hseq := cells1_gives hc b1 b2 hb1 (some ⟨wa.heap.size, 0, none⟩) 1 hb2 hca hok
  refine Calls.mono (callsIn_wide.1 (collect_in Fence.wide 11 trivial trivial rfl (by decide) 85 _ trivial (enters_of Tryz.func85 (by kernel_rfl) rfl) _ _ (by unfold maxLen; omega) (by omega) wc hseq)) ?_
  rintro e wd ⟨v, ss, rfl, rfl, hrow, -, hbd⟩
  rw [← flat_ints] at hrow
  obtain ⟨A9, c9, rfl, hS9⟩ := own_slice (by decide) hrow
  exact ⟨A9, c9, rfl, hS9, hbd⟩

set_option maxHeartbeats 16000000 in
theorem area_ok (W H : Int) (GA PA : Option Addr) (gc pc : Nat) (G P : List Int) (s : St) (A : Option Addr) (c : Nat) (w : World) (ht : Tab w) (hg : Sl 1 icell w w.heap.size GA G) (hp : Sl 1 icell w w.heap.size PA P) (hS : Sl 1 icell w w.heap.size A s.pat) (hok : M.okS W H G P s = true) :
    Calls Tryz.prog 58 #[tv W H GA PA G.length gc P.length pc, stv s A c] w (RetL 1 icell w (M.area W H G s) 0) := by
  obtain ⟨V, HW, x0, x1, hB, -⟩ := boxes2 w #[.int .i64 W, .int .i64 H, .slice GA G.length gc, .slice PA P.length pc] 24 (stc s A c) 28
  obtain ⟨U, HU, u0, hBU, -⟩ := boxes1 V (stc s A c) 28
  have BU := after_ hB hBU
  have hL : Sl 8 secell U U.heap.size (some ⟨V.heap.size, 0, none⟩) [⟨s, A, c⟩] := Sl.of_box u0 rfl
  have hPs : Pats U [⟨s, A, c⟩] := pats1 ((hS.below BU).more BU.size)
  obtain ⟨hsv, htv, -, -⟩ := M.okS_iff.1 hok
  obtain ⟨r1, r2, r3, r4, -, -⟩ := M.tvalid_iff.1 htv
  obtain ⟨wh1, wh2⟩ := M.wh_le r1 r2
  have hp16 := (M.avalid_iff.1 (M.svalid_iff.1 hsv).2.2.2.2.2.2).2.1
  have HC : Hid (M.chk W H G P (([⟨s, A, c⟩] : List SE).map (·.s)) = 0) := Lib.hid (by unfold M.chk; rw [if_pos (by simp [hok, htv])])
  have hN : (W * H).toNat ≤ 4096 := by omega
  have hgl : G.length ≤ 5000 := by omega
  have hpl' : P.length ≤ 5000 := by omega
  have hpl : s.pat.length ≤ 1000 := by omega
  have HOK := Lib.hid hok
  clear hok hsv htv r1 r2 r3 r4 wh1 wh2 hp16
  obtain ⟨c0, c1, c2, c3⟩ := x0.c4
  obtain ⟨b0, b1, b2, b3, b4, b5, b6, b7⟩ := x1.c8
  have hV := HW.out
  have hU := HU.out
  go_enter Tryz.func58, Tryz.ntmps58
  go_wp2_with fail
  clear hV hU
  refine (check_any W H GA PA gc pc G P (some ⟨V.heap.size, 0, none⟩) 1 [⟨s, A, c⟩] U ((hg.below BU).more BU.size) ((hp.below BU).more BU.size) hL hPs (by omega) (by omega) (by simp) (pl1 hpl)).mono ?_
  rintro e w1 ⟨rfl, hb1⟩
  rw [HC.out]
  have B1 := after_ BU hb1
  have y0 : Box w1.drew w.heap.size #[.int .i64 W, .int .i64 H, .slice GA G.length gc, .slice PA P.length pc] 24 := (x0.below hBU).below hb1.drew
  have y1 : Box w1.drew (w.heap.size + 1) (stc s A c) 28 := (x1.below hBU).below hb1.drew
  have K0 := held12 y0 y1
  have Bd : Below w.heap.size w w1.drew := B1.drew
  have hgd := (hg.below Bd).more Bd.size
  have hpd := (hp.below Bd).more Bd.size
  have hsd := (hS.below Bd).more Bd.size
  have htd := ht.kept Bd
  have kA : ∀ wa, Below w1.drew.heap.size w1.drew wa → _ := fun wa hba => held12 (y0.below hba) (y1.below hba)
  have kB : ∀ wa o, Below w1.drew.heap.size w1.drew wa → _ := fun wa o hba => held12 ((y0.below hba).below ((Below.refl wa.heap.size wa).alloc (Nat.le_refl _) o)) ((y1.below hba).below ((Below.refl wa.heap.size wa).alloc (Nat.le_refl _) o))
  clear c0 c1 c2 c3 b0 b1 b2 b3 b4 b5 b6 b7
  go_wp2_with fail
  go_region_held3 (fun w' => w'.cell? ⟨w.heap.size, 0, none⟩ = some (.int .i64 W) ∧ w'.cell? ⟨w.heap.size, 1, none⟩ = some (.int .i64 H) ∧ w'.cell? ⟨w.heap.size, 2, none⟩ = some (.slice GA G.length gc) ∧ w'.cell? ⟨w.heap.size, 3, none⟩ = some (.slice PA P.length pc) ∧ w'.cell? ⟨w.heap.size + 1, 0, none⟩ = some (.int .i64 s.id) ∧ w'.cell? ⟨w.heap.size + 1, 1, none⟩ = some (.int .i64 s.x) ∧ w'.cell? ⟨w.heap.size + 1, 2, none⟩ = some (.int .i64 s.y) ∧ w'.cell? ⟨w.heap.size + 1, 3, none⟩ = some (.int .i64 s.pw) ∧ w'.cell? ⟨w.heap.size + 1, 4, none⟩ = some (.int .i64 s.h) ∧ w'.cell? ⟨w.heap.size + 1, 5, none⟩ = some (.slice A s.pat.length c) ∧ w'.cell? ⟨w.heap.size + 1, 6, none⟩ = some (.int .i64 s.band) ∧ w'.cell? ⟨w.heap.size + 1, 7, none⟩ = some (.int .i64 s.ch)) (first | exact K0 | exact kA _ (by assumption) | exact kB _ _ (by assumption))
    (first
      | (go_at_call 72; ((with_reducible refine (coveredBy_ok W H GA PA gc pc G P s A c _).mono ?_); rintro e wa ⟨rfl, hba, hsa, za, zb⟩; dsimp only [fv]))
      | (go_at_call 71; ((with_reducible refine (cells_ok W H GA PA gc pc G.length P.length _ 1 1 _).mono ?_); rintro e wc ⟨rfl, hbc, hsc, zc, zd⟩; have hbC := after_ (hba.alloc hba.size _) hbc; have hsa2 : wa.heap.size = w1.heap.size + 2 := hsa; rw [World.size_alloc, hsa2] at zc zd; have kk := collect_area (wa := wa) (bt := w1.heap.size) (bs := w1.heap.size + 1) (GA := GA) (PA := PA) (gc := gc) (pc := pc) (A := A) (c := c) ⟨za, zb, (hgd.below hba).more hba.size, (hpd.below hba).more hba.size, (hsd.below hba).more hba.size, htd.kept hba⟩ 94 (w1.heap.size + 2 + 1) (w1.heap.size + 2 + 1 + 1) (w1.heap.size + 2) hsa2.symm hbc zc zd HOK.out hN; dsimp only [cvv] at kk ⊢))
      | (go_at_call 70; ((with_reducible refine kk.mono ?_); rintro e wd ⟨A9, c9, rfl, hS9, hbd⟩; have hbD := after_ hbC hbd)))
  all_goals
    go_wp2_with fail
    go_ret2
    exact ⟨A9, c9, rfl, hS9, after_ Bd hbD⟩
end Go.Proofs.YtohkbblfcjmmnaaGreatDoor
