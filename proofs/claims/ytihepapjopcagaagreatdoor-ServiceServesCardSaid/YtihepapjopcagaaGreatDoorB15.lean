/- A bundle of texts: Area, Ref14, RefT, Int. -/
import Derived.Test.YtihepapjopcagaaGreatDoorB14
import Derived.Deep.RegionHeld3
/- Layer 14: check, Area, People. -/
section
namespace Go.Proofs.YtihepapjopcagaaGreatDoor
open Go Go.RowKit Go.Shelf
set_option maxRecDepth 100000

/-- What check answers. -/
def M.chk (W H : Int) (G P : List Int) (l : List St) : Int := if (M.tvalid W H G P && l.all (M.okS W H G P)) = true then 0 else 2

set_option maxHeartbeats 8000000 in
theorem check_any (W H : Int) (GA PA : Option Addr) (gc pc : Nat) (G P : List Int) (LA : Option Addr) (lc : Nat) (es : List SE) (w : World) (hg : Sl 1 icell w w.heap.size GA G) (hp : Sl 1 icell w w.heap.size PA P) (hL : Sl 8 secell w w.heap.size LA es) (hP : Pats w es)
    (hgl : G.length ≤ 9223372036854775806) (hpl' : P.length ≤ 9223372036854775806) (hl : es.length ≤ 9223372036854775806) (hpl : ∀ e ∈ es, e.s.pat.length ≤ 1000) :
    Calls Tryz.prog 37 #[tv W H GA PA G.length gc P.length pc, .slice LA es.length lc] w fun e w' => e = .returned (.int .i64 (M.chk W H G P (es.map (·.s)))) ∧ Below w.heap.size w w' := by
  obtain ⟨V, HW, x0, hB, -⟩ := boxes1 w #[.int .i64 W, .int .i64 H, .slice GA G.length gc, .slice PA P.length pc] 30
  have hg1 := (hg.below hB).more hB.size
  have hp1 := (hp.below hB).more hB.size
  obtain ⟨r, hr⟩ : ∃ r, M.chk W H G P (es.map (·.s)) = r := ⟨_, rfl⟩
  have HNO : Hid (M.tvalid W H G P = false → 2 = r) := Lib.hid (fun h => by rw [← hr]; unfold M.chk; rw [h]; rfl)
  have HNK : Hid (∀ k (hk : k < es.length), M.okS W H G P es[k].s = false → 2 = r) := Lib.hid (fun k hk h => by
    rw [← hr]; unfold M.chk
    rw [if_neg]
    rw [Bool.and_eq_true, List.all_eq_true]
    intro h2
    have := h2.2 es[k].s (List.mem_map.2 ⟨_, List.getElem_mem hk, rfl⟩)
    rw [h] at this; cases this)
  have HYES : Hid (M.tvalid W H G P = true → (∀ k (hk : k < es.length), M.okS W H G P es[k].s = true) → 0 = r) := Lib.hid (fun h hk => by
    rw [← hr]; unfold M.chk
    rw [if_pos]
    rw [Bool.and_eq_true, List.all_eq_true]
    refine ⟨h, fun s hs => ?_⟩
    obtain ⟨e, he, rfl⟩ := List.mem_map.1 hs
    obtain ⟨j, hj, rfl⟩ := List.getElem_of_mem he
    exact hk j hj)
  rw [hr]
  clear hr
  go_enter Tryz.func37, Tryz.ntmps37
  go_wp2_with fail
  rw [HW.out]
  refine (tvalid_any W H GA PA gc pc G P V hg1 hp1 hgl hpl').mono ?_
  rintro e w1 ⟨rfl, hb1⟩
  have B1 := after_ hB hb1
  cases hc : M.tvalid W H G P with
  | false =>
    have HF := Lib.hid (HNO.out hc)
    go_wp2_with fail
    go_ret
    exact ⟨ret_int HF.out, B1⟩
  | true =>
    have y0 := x0.below hb1
    have HC := Lib.hid hc
    have HIF : Hid (∀ s, M.okS W H G P s = true ↔ M.svalid s = true ∧ s.x < W ∧ s.y < H) := Lib.hid (fun s => by
      rw [M.okS_iff]
      constructor
      · rintro ⟨a, b, c, d⟩; exact ⟨a, c, d⟩
      · rintro ⟨a, c, d⟩; exact ⟨a, hc, c, d⟩)
    clear hc
    go_wp2_with fail
    go_loopw [6, 12] (fun _ i wr => ∃ k : Nat, k ≤ es.length ∧ i = .int .i64 k ∧ Below w1.heap.size w1 wr ∧ Hid (∀ j (hj : j < es.length), j < k → M.okS W H G P es[j].s = true)) (fun _ i _ => es.length - (intOf i).toNat)
    case atStart => exact ⟨0, Nat.zero_le _, rfl, Below.refl _ _, Lib.hid (fun j _ h => absurd h (by omega))⟩
    case round =>
      obtain ⟨k, hk, rfl, hBr, HN⟩ := hrel
      have hBw := B1.trans (hBr.mono B1.size)
      by_cases hlt : k < es.length
      · obtain ⟨la, rfl, hlb, a0, a1, a2, a3, a4, a5, a6, a7⟩ := (hL.below hBw).st8 hlt
        have hS := (hP.below hBw).at_ hlt
        have hpk := hpl _ (List.getElem_mem hlt)
        have HK1 := Lib.hid (HNK.out k hlt)
        have HN2 : Hid (M.okS W H G P es[k].s = true → ∀ j (hj : j < es.length), j < k + 1 → M.okS W H G P es[j].s = true) := Lib.hid (fun h j h1 h3 => by
          by_cases e : j = k
          · subst e; exact h
          · exact HN.out j h1 (by omega))
        have HI := Lib.hid (HIF.out es[k].s)
        generalize es[k] = ek at *
        obtain ⟨s, A, c⟩ := ek
        simp only at a0 a1 a2 a3 a4 a5 a6 a7 hS hpk HK1 HN2 HI
        obtain ⟨U, HU, u0, hBU, -⟩ := boxes1 wr (stc s A c) 34
        obtain ⟨b0, b1, b2, b3, b4, b5, b6, b7⟩ := u0.c8
        have hU := HU.out
        have BU := after_ hBw hBU
        obtain ⟨c0, c1, c2, c3⟩ := ((y0.below hBr).below hBU).c4
        go_wp2_with fail
        clear hU
        refine (sValid_any s A c U ((hS.below hBU).more hBU.size) (by omega)).mono ?_
        rintro e w2 ⟨rfl, hb2⟩
        have B2 := after_ BU hb2
        cases hv : M.svalid s with
        | false =>
          have HF := Lib.hid (HK1.out (by
            cases ho : M.okS W H G P s with
            | false => rfl
            | true => have := (HI.out.1 ho).1; rw [hv] at this; cases this))
          go_wp2_with fail
          go_ret
          exact ⟨ret_int HF.out, B2⟩
        | true =>
          clear c0 c1 c2 c3 b0 b1 b2 b3 b4 b5 b6 b7
          obtain ⟨c0, c1, c2, c3⟩ := (((y0.below hBr).below hBU).below hb2).c4
          obtain ⟨b0, b1, b2, b3, b4, b5, b6, b7⟩ := (u0.below hb2).c8
          by_cases e1 : W ≤ s.x
          · have HF := Lib.hid (HK1.out (by
              cases ho : M.okS W H G P s with
              | false => rfl
              | true => have := (HI.out.1 ho).2.1; omega))
            have q1 : decide (W ≤ s.x) = true := decide_eq_true e1
            go_wp2_with fail
            go_ret
            exact ⟨ret_int HF.out, B2⟩
          have q1 : decide (W ≤ s.x) = false := decide_eq_false e1
          by_cases e2 : H ≤ s.y
          · have HF := Lib.hid (HK1.out (by
              cases ho : M.okS W H G P s with
              | false => rfl
              | true => have := (HI.out.1 ho).2.2; omega))
            have q2 : decide (H ≤ s.y) = true := decide_eq_true e2
            go_wp2_with fail
            go_ret
            exact ⟨ret_int HF.out, B2⟩
          have q2 : decide (H ≤ s.y) = false := decide_eq_false e2
          have HN3 := Lib.hid (HN2.out (HI.out.2 ⟨hv, by omega, by omega⟩))
          go_wp2_with fail
          go_roundw
          case rel => exact ⟨k + 1, hlt, by go_num, after_ (after_ hBr hBU) hb2, HN3⟩
          case measure => simp [intOf]; omega
      · have HF := Lib.hid (HYES.out HC.out (fun j hj => HN.out j hj (by omega)))
        go_wp2_with fail
        go_ret
        exact ⟨ret_int HF.out, hBw⟩

theorem pl1 {s : St} {A : Option Addr} {c : Nat} (h : s.pat.length ≤ 1000) : ∀ e ∈ ([⟨s, A, c⟩] : List SE), e.s.pat.length ≤ 1000 := fun e he => by
  obtain rfl : e = ⟨s, A, c⟩ := by simpa using he
  exact h
theorem pats1 {w : World} {s : St} {A : Option Addr} {c : Nat} (h : Sl 1 icell w w.heap.size A s.pat) : Pats w [⟨s, A, c⟩] := fun e he => by
  obtain rfl : e = ⟨s, A, c⟩ := by simpa using he
  exact h
/-- A call that returns a list of numbers and an error number. -/
theorem ret_le {A : Option Addr} {n m : Nat} {c : Nat} {z z' : Int} (h : n = m) (h2 : z = z') : Ending.returned (.tuple #[.slice A n c, .int .i64 z]) = .returned (.tuple #[.slice A m c, .int .i64 z']) := by rw [h, h2]

set_option maxHeartbeats 8000000 in
theorem area_no (W H : Int) (GA PA : Option Addr) (gc pc : Nat) (G P : List Int) (s : St) (A : Option Addr) (c : Nat) (w : World) (hg : Sl 1 icell w w.heap.size GA G) (hp : Sl 1 icell w w.heap.size PA P) (hS : Sl 1 icell w w.heap.size A s.pat)
    (hgl : G.length ≤ 9223372036854775806) (hpl' : P.length ≤ 9223372036854775806) (hpl : s.pat.length ≤ 1000) (hok : M.okS W H G P s = false) :
    Calls Tryz.prog 12 #[tv W H GA PA G.length gc P.length pc, stv s A c] w fun e w' => e = .returned (.tuple #[.slice none 0 0, .int .i64 2]) ∧ Below w.heap.size w w' := by
  obtain ⟨V, HW, x0, x1, hB, -⟩ := boxes2 w #[.int .i64 W, .int .i64 H, .slice GA G.length gc, .slice PA P.length pc] 30 (stc s A c) 34
  obtain ⟨U, HU, u0, hBU, -⟩ := boxes1 V (stc s A c) 34
  have BU := after_ hB hBU
  have hL : Sl 8 secell U U.heap.size (some ⟨V.heap.size, 0, none⟩) [⟨s, A, c⟩] := Sl.of_box u0 rfl
  have hPs : Pats U [⟨s, A, c⟩] := pats1 ((hS.below BU).more BU.size)
  have HC : Hid (M.chk W H G P (([⟨s, A, c⟩] : List SE).map (·.s)) = 2) := Lib.hid (by unfold M.chk; rw [if_neg (by simp [hok])])
  obtain ⟨c0, c1, c2, c3⟩ := x0.c4
  obtain ⟨b0, b1, b2, b3, b4, b5, b6, b7⟩ := x1.c8
  have hV := HW.out
  have hU := HU.out
  go_enter Tryz.func12, Tryz.ntmps12
  go_wp2_with fail
  clear hV hU
  refine (check_any W H GA PA gc pc G P (some ⟨V.heap.size, 0, none⟩) 1 [⟨s, A, c⟩] U ((hg.below BU).more BU.size) ((hp.below BU).more BU.size) hL hPs hgl hpl' (by simp) (pl1 hpl)).mono ?_
  rintro e w1 ⟨rfl, hb1⟩
  rw [HC.out]
  go_wp2_with fail
  go_ret2
  exact ⟨rfl, after_ BU hb1⟩

theorem held12 {w' : World} {b0 b1 : Nat} {W H : Int} {GA PA : Option Addr} {gc pc : Nat} {G P : List Int} {s : St} {A : Option Addr} {c : Nat} (h0 : Box w' b0 #[.int .i64 W, .int .i64 H, .slice GA G.length gc, .slice PA P.length pc] 30) (h1 : Box w' b1 (stc s A c) 34) :
    w'.cell? ⟨b0, 0, none⟩ = some (.int .i64 W) ∧ w'.cell? ⟨b0, 1, none⟩ = some (.int .i64 H) ∧ w'.cell? ⟨b0, 2, none⟩ = some (.slice GA G.length gc) ∧ w'.cell? ⟨b0, 3, none⟩ = some (.slice PA P.length pc) ∧ w'.cell? ⟨b1, 0, none⟩ = some (.int .i64 s.id) ∧ w'.cell? ⟨b1, 1, none⟩ = some (.int .i64 s.x) ∧ w'.cell? ⟨b1, 2, none⟩ = some (.int .i64 s.y) ∧ w'.cell? ⟨b1, 3, none⟩ = some (.int .i64 s.pw) ∧ w'.cell? ⟨b1, 4, none⟩ = some (.int .i64 s.h) ∧ w'.cell? ⟨b1, 5, none⟩ = some (.slice A s.pat.length c) ∧ w'.cell? ⟨b1, 6, none⟩ = some (.int .i64 s.band) ∧ w'.cell? ⟨b1, 7, none⟩ = some (.int .i64 s.ch) := by
  obtain ⟨c0, c1, c2, c3⟩ := h0.c4
  obtain ⟨d0, d1, d2, d3, d4, d5, d6, d7⟩ := h1.c8
  exact ⟨c0, c1, c2, c3, d0, d1, d2, d3, d4, d5, d6, d7⟩

theorem flat_ints (xs : List Int) : flat 1 icell xs = xs.map encI := by
  induction xs with
  | nil => rfl
  | cons x xs ih => simp only [flat, List.flatMap_cons, List.map_cons] at *; rw [ih]; rfl

theorem collect_area {wa wc : World} {bt bs : Nat} {W H : Int} {GA PA : Option Addr} {gc pc : Nat} {G P : List Int} {s : St} {A : Option Addr} {c : Nat} (h : Capt wa bt bs W H GA PA gc pc G P s A c) (T : TypeId) (b1 b2 bq : Nat) (hq : bq = wa.heap.size) (hbc : Below (wa.alloc (.cells #[fv bt bs] T)).heap.size (wa.alloc (.cells #[fv bt bs] T)) wc)
    (hb1 : Box wc b1 #[.int .i64 W, .int .i64 H, .slice GA G.length gc, .slice PA P.length pc] 30) (hb2 : Box wc b2 #[.slice (some ⟨bq, 0, none⟩) 1 1] 95) (hok : M.okS W H G P s = true) (hN : (W * H).toNat ≤ 4096) :
    Calls Tryz.prog 38 #[cvv b1 b2] wc (RetS 1 icell wc (M.area W H G s)) := by
  subst hq
  have x : Box (wa.alloc (.cells #[fv bt bs] T)) wa.heap.size #[fv bt bs] T := Box.new _ _ _
  have hb0 : Below wa.heap.size wa (wa.alloc (.cells #[fv bt bs] T)) := (Below.refl _ _).alloc (Nat.le_refl _) _
  have hc := (h.below hb0).below hbc
  have hca : Sl 1 vcell wc wc.heap.size (some ⟨wa.heap.size, 0, none⟩) [fv bt bs] := Sl.of_box (x.below hbc) rfl
  have hseq := cells1_gives hc b1 b2 hb1 (some ⟨wa.heap.size, 0, none⟩) 1 hb2 hca hok
  refine Calls.mono (callsIn_wide.1 (collect_in Fence.wide 11 trivial trivial rfl (by decide) 58 _ trivial (enters_of Tryz.func58 (by kernel_rfl) rfl) _ _ (by unfold maxLen; omega) (by omega) wc hseq)) ?_
  rintro e wd ⟨v, ss, rfl, rfl, hrow, -, hbd⟩
  rw [← flat_ints] at hrow
  obtain ⟨A9, c9, rfl, hS9⟩ := own_slice (by decide) hrow
  exact ⟨A9, c9, rfl, hS9, hbd⟩

set_option maxHeartbeats 16000000 in
theorem area_ok (W H : Int) (GA PA : Option Addr) (gc pc : Nat) (G P : List Int) (s : St) (A : Option Addr) (c : Nat) (w : World) (ht : Tab w) (hg : Sl 1 icell w w.heap.size GA G) (hp : Sl 1 icell w w.heap.size PA P) (hS : Sl 1 icell w w.heap.size A s.pat) (hok : M.okS W H G P s = true) :
    Calls Tryz.prog 12 #[tv W H GA PA G.length gc P.length pc, stv s A c] w (RetL 1 icell w (M.area W H G s) 0) := by
  obtain ⟨V, HW, x0, x1, hB, -⟩ := boxes2 w #[.int .i64 W, .int .i64 H, .slice GA G.length gc, .slice PA P.length pc] 30 (stc s A c) 34
  obtain ⟨U, HU, u0, hBU, -⟩ := boxes1 V (stc s A c) 34
  have BU := after_ hB hBU
  have hL : Sl 8 secell U U.heap.size (some ⟨V.heap.size, 0, none⟩) [⟨s, A, c⟩] := Sl.of_box u0 rfl
  have hPs : Pats U [⟨s, A, c⟩] := pats1 ((hS.below BU).more BU.size)
  obtain ⟨hsv, htv, -, -⟩ := M.okS_iff.1 hok
  obtain ⟨r1, r2, r3, r4, -, -⟩ := M.tvalid_iff.1 htv
  obtain ⟨wh1, wh2⟩ := M.wh_le r1 r2
  have hp16 := (M.avalid_iff.1 (M.svalid_iff.1 hsv).2.2.2.2.2.2).2.1
  have HC : Hid (M.chk W H G P (([⟨s, A, c⟩] : List SE).map (·.s)) = 0) := Lib.hid (by unfold M.chk; rw [if_pos (by simp [hok, htv])])
  have hN : (W * H).toNat ≤ 4096 := by omega
  have hgl : G.length ≤ 5000 := by omega
  have hpl' : P.length ≤ 5000 := by omega
  have hpl : s.pat.length ≤ 1000 := by omega
  have HOK := Lib.hid hok
  clear hok hsv htv r1 r2 r3 r4 wh1 wh2 hp16
  obtain ⟨c0, c1, c2, c3⟩ := x0.c4
  obtain ⟨b0, b1, b2, b3, b4, b5, b6, b7⟩ := x1.c8
  have hV := HW.out
  have hU := HU.out
  go_enter Tryz.func12, Tryz.ntmps12
  go_wp2_with fail
  clear hV hU
  refine (check_any W H GA PA gc pc G P (some ⟨V.heap.size, 0, none⟩) 1 [⟨s, A, c⟩] U ((hg.below BU).more BU.size) ((hp.below BU).more BU.size) hL hPs (by omega) (by omega) (by simp) (pl1 hpl)).mono ?_
  rintro e w1 ⟨rfl, hb1⟩
  rw [HC.out]
  have B1 := after_ BU hb1
  have y0 : Box w1.drew w.heap.size #[.int .i64 W, .int .i64 H, .slice GA G.length gc, .slice PA P.length pc] 30 := (x0.below hBU).below hb1.drew
  have y1 : Box w1.drew (w.heap.size + 1) (stc s A c) 34 := (x1.below hBU).below hb1.drew
  have K0 := held12 y0 y1
  have Bd : Below w.heap.size w w1.drew := B1.drew
  have hgd := (hg.below Bd).more Bd.size
  have hpd := (hp.below Bd).more Bd.size
  have hsd := (hS.below Bd).more Bd.size
  have htd := ht.kept Bd
  have kA : ∀ wa, Below w1.drew.heap.size w1.drew wa → _ := fun wa hba => held12 (y0.below hba) (y1.below hba)
  have kB : ∀ wa o, Below w1.drew.heap.size w1.drew wa → _ := fun wa o hba => held12 ((y0.below hba).below ((Below.refl wa.heap.size wa).alloc (Nat.le_refl _) o)) ((y1.below hba).below ((Below.refl wa.heap.size wa).alloc (Nat.le_refl _) o))
  clear c0 c1 c2 c3 b0 b1 b2 b3 b4 b5 b6 b7
  go_wp2_with fail
  go_region_held3 (fun w' => w'.cell? ⟨w.heap.size, 0, none⟩ = some (.int .i64 W) ∧ w'.cell? ⟨w.heap.size, 1, none⟩ = some (.int .i64 H) ∧ w'.cell? ⟨w.heap.size, 2, none⟩ = some (.slice GA G.length gc) ∧ w'.cell? ⟨w.heap.size, 3, none⟩ = some (.slice PA P.length pc) ∧ w'.cell? ⟨w.heap.size + 1, 0, none⟩ = some (.int .i64 s.id) ∧ w'.cell? ⟨w.heap.size + 1, 1, none⟩ = some (.int .i64 s.x) ∧ w'.cell? ⟨w.heap.size + 1, 2, none⟩ = some (.int .i64 s.y) ∧ w'.cell? ⟨w.heap.size + 1, 3, none⟩ = some (.int .i64 s.pw) ∧ w'.cell? ⟨w.heap.size + 1, 4, none⟩ = some (.int .i64 s.h) ∧ w'.cell? ⟨w.heap.size + 1, 5, none⟩ = some (.slice A s.pat.length c) ∧ w'.cell? ⟨w.heap.size + 1, 6, none⟩ = some (.int .i64 s.band) ∧ w'.cell? ⟨w.heap.size + 1, 7, none⟩ = some (.int .i64 s.ch)) (first | exact K0 | exact kA _ (by assumption) | exact kB _ _ (by assumption))
    (first
      | (go_at_call 40; ((with_reducible refine (coveredBy_ok W H GA PA gc pc G P s A c _).mono ?_); rintro e wa ⟨rfl, hba, hsa, za, zb⟩; dsimp only [fv]))
      | (go_at_call 39; ((with_reducible refine (cells_ok W H GA PA gc pc G.length P.length _ 1 1 _).mono ?_); rintro e wc ⟨rfl, hbc, hsc, zc, zd⟩; have hbC := after_ (hba.alloc hba.size _) hbc; have hsa2 : wa.heap.size = w1.heap.size + 2 := hsa; rw [World.size_alloc, hsa2] at zc zd; have kk := collect_area (wa := wa) (bt := w1.heap.size) (bs := w1.heap.size + 1) (GA := GA) (PA := PA) (gc := gc) (pc := pc) (A := A) (c := c) ⟨za, zb, (hgd.below hba).more hba.size, (hpd.below hba).more hba.size, (hsd.below hba).more hba.size, htd.kept hba⟩ 79 (w1.heap.size + 2 + 1) (w1.heap.size + 2 + 1 + 1) (w1.heap.size + 2) hsa2.symm hbc zc zd HOK.out hN; dsimp only [cvv] at kk ⊢))
      | (go_at_call 38; ((with_reducible refine kk.mono ?_); rintro e wd ⟨A9, c9, rfl, hS9, hbd⟩; have hbD := after_ hbC hbd)))
  all_goals
    go_wp2_with fail
    go_ret2
    exact ⟨A9, c9, rfl, hS9, after_ Bd hbD⟩
end Go.Proofs.YtihepapjopcagaaGreatDoor
end

/- Layer 14: People; the references of layers 10 and 14. -/
section
namespace Go.Proofs.YtihepapjopcagaaGreatDoor
open Go Go.RowKit Go.Shelf
set_option maxRecDepth 100000

theorem M.area_in {W H : Int} {G : List Int} {s : St} : ∀ x ∈ M.area W H G s, 0 ≤ x ∧ x < W * H := by
  intro x hx
  unfold M.area M.areaTo at hx
  obtain ⟨i, hi, rfl⟩ := List.mem_map.1 hx
  have := List.mem_range.1 (List.mem_filter.1 hi).1
  omega
theorem M.area_len {W H : Int} {G : List Int} {s : St} : (M.area W H G s).length ≤ (W * H).toNat := M.areaTo_len _ _ _ _

set_option maxHeartbeats 4000000 in
theorem people_ok (W H : Int) (GA PA : Option Addr) (gc pc : Nat) (G P : List Int) (s : St) (A : Option Addr) (c : Nat) (w : World) (ht : Tab w) (hg : Sl 1 icell w w.heap.size GA G) (hp : Sl 1 icell w w.heap.size PA P) (hS : Sl 1 icell w w.heap.size A s.pat) (hok : M.okS W H G P s = true) :
    Calls Tryz.prog 13 #[tv W H GA PA G.length gc P.length pc, stv s A c] w fun e w' => e = .returned (.tuple #[.int .i64 (M.total P (M.area W H G s)), .int .i64 0]) ∧ Below w.heap.size w w' := by
  obtain ⟨V, HW, x0, x1, hB, -⟩ := boxes2 w #[.int .i64 W, .int .i64 H, .slice GA G.length gc, .slice PA P.length pc] 30 (stc s A c) 34
  obtain ⟨-, htv, -, -⟩ := M.okS_iff.1 hok
  obtain ⟨r1, r2, -⟩ := M.tvalid_iff.1 htv
  obtain ⟨wh1, wh2⟩ := M.wh_le r1 r2
  have hal : (M.area W H G s).length ≤ 100000 := Nat.le_trans M.area_len (by omega)
  have HTV := Lib.hid htv
  clear htv r1 r2 wh1 wh2
  obtain ⟨c0, c1, c2, c3⟩ := x0.c4
  obtain ⟨b0, b1, b2, b3, b4, b5, b6, b7⟩ := x1.c8
  have hV := HW.out
  go_enter Tryz.func13, Tryz.ntmps13
  go_wp2_with fail
  clear hV c0 c1 c2 c3 b0 b1 b2 b3 b4 b5 b6 b7
  refine (area_ok W H GA PA gc pc G P s A c V (ht.kept hB) ((hg.below hB).more hB.size) ((hp.below hB).more hB.size) ((hS.below hB).more hB.size) hok).mono ?_
  rintro e w1 ⟨A1, c1, rfl, hS1, hb1⟩
  have B1 := after_ hB hb1
  obtain ⟨c0, c1, c2, c3⟩ := (x0.below hb1).c4
  go_wp2_with fail
  refine (tTotal_ok W H GA PA gc pc G P A1 _ (M.area W H G s) w1 ((hg.below B1).more B1.size) ((hp.below B1).more B1.size) hS1 HTV.out hal M.area_in).mono ?_
  rintro e w2 ⟨rfl, hb2⟩
  go_wp2_with fail
  go_ret2
  exact ⟨rfl, after_ B1 hb2⟩

set_option maxHeartbeats 4000000 in
theorem rAt_ok (W H : Int) (GA PA : Option Addr) (gl gc pl pc : Nat) (i : Nat) (w : World) (hW : 1 ≤ W ∧ W ≤ 64) (hi : (i : Int) ≤ 1000000) :
    Calls Tryz.prog 45 #[tv W H GA PA gl gc pl pc, .int .i64 i] w fun e w' => e = .returned (cv (M.cx W i) (M.cy W i)) ∧ Below w.heap.size w w' := by
  obtain ⟨V, HW, x0, x1, hB, hs⟩ := boxes2 w #[.int .i64 W, .int .i64 H, .slice GA gl gc, .slice PA pl pc] 30 #[.int .i64 0, .int .i64 0] 36
  have e1 : (i : Int).tmod W = M.cx W i := by unfold M.cx; exact Int.tmod_eq_emod_of_nonneg (by omega)
  have hcy : 0 ≤ M.cy W i ∧ M.cy W i ≤ 1000000 := by
    unfold M.cy
    have := Int.ediv_nonneg (a := (i : Int)) (b := W) (by omega) (by omega)
    have := Int.ediv_le_self (a := (i : Int)) W (by omega)
    omega
  have e2 : IntKind.i64.wrap ((i : Int) / W) = M.cy W i := wrap_small (z := M.cy W i) (by omega) (by omega)
  have E1 := Lib.hid e1
  have E2 := Lib.hid e2
  have HS := Lib.hid hs
  clear e1 e2 hs hcy
  obtain ⟨c0, c1, c2, c3⟩ := x0.c4
  clear c1 c2 c3
  have D0 : V.drew.cell? ⟨w.heap.size, 0, none⟩ = some (.int .i64 W) := c0
  have hW0 : W ≠ 0 := by omega
  have hne : w.heap.size ≠ w.heap.size + 1 := by omega
  have D1 : ∀ u v, ((V.drew.setCell ⟨w.heap.size + 1, 0, none⟩ u).setCell ⟨w.heap.size + 1, 1, none⟩ v).cell? ⟨w.heap.size, 0, none⟩ = some (.int .i64 W) := fun u v => ((x0.set_other (p := ⟨w.heap.size + 1, 0, none⟩) hne u).set_other (p := ⟨w.heap.size + 1, 1, none⟩) hne v).c4.1
  have f0 : V.drew.frozen? ⟨w.heap.size + 1, 0, none⟩ = false := x1.frozen 0
  have f1 : V.drew.frozen? ⟨w.heap.size + 1, 1, none⟩ = false := x1.frozen 1
  have f2 := x1.frozen 0
  have f3 := x1.frozen 1
  obtain ⟨g0, g1⟩ := x1.c2
  have G0 : V.drew.cell? ⟨w.heap.size + 1, 0, none⟩ = some (.int .i64 0) := g0
  have G1 : V.drew.cell? ⟨w.heap.size + 1, 1, none⟩ = some (.int .i64 0) := g1
  go_enter Tryz.func45, Tryz.ntmps45
  go_wp2_with fail
  rw [HW.out]
  go_region_held3 (fun w' => w'.cell? ⟨w.heap.size, 0, none⟩ = some (.int .i64 W)) (first | with_reducible exact D0 | with_reducible exact c0 | exact D1 _ _) (fail)
  all_goals
    rw [E1.out, E2.out]
    have z := (x1.set 0 (.int .i64 (M.cx W i))).set 1 (.int .i64 (M.cy W i))
    obtain ⟨z0, z1⟩ := z.c2
    have Z0 : ((V.drew.setCell ⟨w.heap.size + 1, 0, none⟩ (.int .i64 (M.cx W i))).setCell ⟨w.heap.size + 1, 1, none⟩ (.int .i64 (M.cy W i))).cell? ⟨w.heap.size + 1, 0, none⟩ = some (.int .i64 (M.cx W i)) := z0
    have Z1 : ((V.drew.setCell ⟨w.heap.size + 1, 0, none⟩ (.int .i64 (M.cx W i))).setCell ⟨w.heap.size + 1, 1, none⟩ (.int .i64 (M.cy W i))).cell? ⟨w.heap.size + 1, 1, none⟩ = some (.int .i64 (M.cy W i)) := z1
    go_wp2_with fail
    refine bodyPost_ret (v := cv (M.cx W i) (M.cy W i)) ?_ rfl ⟨rfl, ?_⟩
    · simp [results, Tryz.results45, go_sem, z0, z1]
    · exact (hB.drew.setCell (p := ⟨w.heap.size + 1, 0, none⟩) (by dsimp only; omega) _).setCell (p := ⟨w.heap.size + 1, 1, none⟩) (by dsimp only; omega) _


theorem rThr_ok (b : Int) (w : World) (h : b = 1 ∨ b = 2 ∨ b = 3) : Calls Tryz.prog 10 #[.int .i64 b] w fun e w' => e = .returned (.int .i64 (M.thr b)) ∧ Below w.heap.size w w' := by
  obtain ⟨V, HW, x0, hB, -⟩ := boxes1 w #[.int .i64 0, .int .i64 56, .int .i64 72, .int .i64 82] 3
  obtain ⟨c0, c1, c2, c3⟩ := x0.c4
  have hV := HW.out
  rcases h with rfl | rfl | rfl
  all_goals
    go_enter Tryz.func10, Tryz.ntmps10
    go_wp2_with fail
    go_ret
    exact ⟨rfl, hB⟩

set_option maxHeartbeats 4000000 in
theorem rCovers_ok (W H : Int) (GA PA : Option Addr) (gc pc : Nat) (G P : List Int) (s : St) (A : Option Addr) (c : Nat) (cx cy : Int) (w : World) (hg : Sl 1 icell w w.heap.size GA G) (hS : Sl 1 icell w w.heap.size A s.pat)
    (hok : M.okF W H G P s cx cy = true) : Calls Tryz.prog 16 #[tv W H GA PA G.length gc P.length pc, stv s A c, cv cx cy] w fun e w' => e = .returned (.bool (M.cov W G s cx cy)) ∧ Below w.heap.size w w' := by
  obtain ⟨V, HW, x0, x1, x2, hB, -⟩ := boxes3 w #[.int .i64 W, .int .i64 H, .slice GA G.length gc, .slice PA P.length pc] 30 (stc s A c) 34 #[.int .i64 cx, .int .i64 cy] 36
  have hbd := M.band_in (M.okF_valid hok)
  obtain ⟨r, HR⟩ : ∃ r, Hid (M.cov W G s cx cy = r) := ⟨_, Lib.hid rfl⟩
  have HQ : Hid (decide (M.thr s.band ≤ M.field W G s cx cy) = r) := Lib.hid HR.out
  rw [HR.out]
  obtain ⟨c0, c1, c2, c3⟩ := x0.c4
  obtain ⟨b0, b1, b2, b3, b4, b5, b6, b7⟩ := x1.c8
  obtain ⟨d0, d1⟩ := x2.c2
  have l0 := x0.lt
  have l1 := x1.lt
  have l2 := x2.lt
  have hg1 := (hg.below hB).more hB.size
  have hS1 := (hS.below hB).more hB.size
  have kF : Hid (∀ w1, Sl 1 icell w1 w1.heap.size GA G → Sl 1 icell w1 w1.heap.size A s.pat → Calls Tryz.prog 44 #[tv W H GA PA G.length gc P.length pc, stv s A c, cv cx cy] w1 fun e w' => e = .returned (.int .i64 (M.field W G s cx cy)) ∧ Below w1.heap.size w1 w') := Lib.hid (fun w1 h1 h2 => rField_ok W H GA PA gc pc G P s A c cx cy w1 h1 h2 hok)
  go_enter Tryz.func16, Tryz.ntmps16
  go_wp2_with fail
  rw [HW.out]
  refine wp_region_kept V.heap.size V (by kernel_rfl) (by kernel_rfl) (Below.refl _ _) ?_
  repeat (go_big_quiet_step ((first | (go_at_call 44; exact Kept.calls (Nat.le_refl _) (kF.out _ hg1.kept hS1.kept)) | (go_at_call 10; exact Kept.calls (Nat.le_refl _) (rThr_ok s.band _ hbd)))))
  refine wpQuiet_nil ?_
  rintro w1 ⟨⟨_, hb1⟩, rfl⟩
  go_wp2_with fail
  go_ret
  exact ⟨ret_bool HQ.out, after_ hB hb1⟩

set_option maxHeartbeats 8000000 in
theorem rArea_ok (W H : Int) (GA PA : Option Addr) (gc pc : Nat) (G P : List Int) (s : St) (A : Option Addr) (c : Nat) (w : World) (hg : Sl 1 icell w w.heap.size GA G) (hS : Sl 1 icell w w.heap.size A s.pat) (hok : M.okS W H G P s = true) :
    Calls Tryz.prog 18 #[tv W H GA PA G.length gc P.length pc, stv s A c] w (RetS 1 icell w (M.area W H G s)) := by
  obtain ⟨V, HW, x0, x1, hB, -⟩ := boxes2 w #[.int .i64 W, .int .i64 H, .slice GA G.length gc, .slice PA P.length pc] 30 (stc s A c) 34
  obtain ⟨i0, hi, hz0, hz1, hz2⟩ := info_parts intInfo
  have Hi := Lib.hid hi; have Hz0 := Lib.hid hz0; have Hz1 := Lib.hid hz1; have Hz2 := Lib.hid hz2
  clear hi hz0 hz1 hz2
  obtain ⟨-, htv, -, -⟩ := M.okS_iff.1 hok
  obtain ⟨r1, r2, -⟩ := M.tvalid_iff.1 htv
  obtain ⟨wh1, wh2⟩ := M.wh_le r1 r2
  obtain ⟨n, hn⟩ : ∃ n : Nat, W * H = n := ⟨(W * H).toNat, by omega⟩
  have HA : Hid (M.area W H G s = M.areaTo W G s n) := Lib.hid (by unfold M.area; rw [show (W * H).toNat = n by omega])
  have HOK := Lib.hid hok
  clear hok htv
  rw [HA.out]
  go_enter Tryz.func18, Tryz.ntmps18
  go_wp2_with fail
  rw [HW.out]
  go_loopw [5, 6] (fun out i wr => ∃ k : Nat, k ≤ n ∧ i = .int .i64 k ∧ Below w.heap.size w wr ∧ Below V.heap.size V wr ∧ wr.ownsRow V.heap.size 3 1 out (M.areaTo W G s k).length (flat 1 icell (M.areaTo W G s k))) (fun _ i _ => n - (intOf i).toNat)
  case atStart => exact ⟨0, Nat.zero_le _, rfl, hB, Below.refl _ _, own_nil _ _ _ _ _⟩
  case round =>
    obtain ⟨k, hk, rfl, hBw, hBr, hown⟩ := hrel
    have y0 := x0.below hBr
    have y1 := x1.below hBr
    obtain ⟨c0, c1, c2, c3⟩ := y0.c4
    have hmul : W * H = (n : Int) := hn
    by_cases hlt : k < n
    · obtain ⟨hcx, hcy⟩ := M.cell_in (W := W) (H := H) (i := k) (by omega) (by omega)
      have hoF := M.okS_F HOK.out hcx.1 hcx.2 hcy.1 hcy.2
      obtain ⟨b0, b1, b2, b3, b4, b5, b6, b7⟩ := y1.c8
      have l0 := y0.lt
      have l1 := y1.lt
      have hg1 := (hg.below hBw).more hBw.size
      have hS1 := (hS.below hBw).more hBw.size
      have hal := M.areaTo_len W G s k
      have HSC := Lib.hid (M.areaTo_succ W G s k)
      obtain ⟨r, HR⟩ : ∃ r, Hid (M.cov W G s (M.cx W k) (M.cy W k) = r) := ⟨_, Lib.hid rfl⟩
      rw [HR.out] at HSC
      have kC : Hid (∀ w1, Sl 1 icell w1 w1.heap.size GA G → Sl 1 icell w1 w1.heap.size A s.pat → Calls Tryz.prog 16 #[tv W H GA PA G.length gc P.length pc, stv s A c, cv (M.cx W k) (M.cy W k)] w1 fun e w' => e = .returned (.bool r) ∧ Below w1.heap.size w1 w') := Lib.hid (fun w1 h1 h2 => by rw [← HR.out]; exact rCovers_ok W H GA PA gc pc G P s A c _ _ w1 h1 h2 hoF)
      have kA : Hid (∀ w1, Calls Tryz.prog 45 #[tv W H GA PA G.length gc P.length pc, .int .i64 k] w1 fun e w' => e = .returned (cv (M.cx W k) (M.cy W k)) ∧ Below w1.heap.size w1 w') := Lib.hid (fun w1 => rAt_ok W H GA PA G.length gc P.length pc k w1 r1 (by omega))
      clear hoF
      go_wp2_with fail
      refine wp_region_kept wr.heap.size wr (by kernel_rfl) (by kernel_rfl) (Below.refl _ _) ?_
      repeat (go_big_quiet_step ((first | (go_at_call 16; exact Kept.calls (Nat.le_refl _) (kC.out _ hg1.kept hS1.kept)) | (go_at_call 45; exact Kept.calls (Nat.le_refl _) (kA.out _)))))
      refine wpQuiet_nil ?_
      rintro w5 ⟨⟨_, hb5⟩, rfl⟩
      have hown5 := own_below hown hb5
      have B5 := after_ hBr hb5
      have Bw5 := after_ hBw hb5
      clear kC kA
      cases r
      · have HS2 := Lib.hid (HSC.out.trans (by simp : _ = M.areaTo W G s k))
        go_wp2_with fail
        go_roundw
        case rel => exact ⟨k + 1, hlt, by go_num, Bw5, B5, by rw [HS2.out]; exact hown5⟩
        case measure => simp [intOf]; omega
      · have HS2 := Lib.hid (HSC.out.trans (by simp : _ = M.areaTo W G s k ++ [(k : Int)]))
        go_wp2_with (at_builtin; refine wpList_push (w0 := V) (cell := icell) (y := (k : Int)) rfl _ _ _ rfl V.heap.size V.heap.size 3 i0 _ 8 Tryz.underlying28 Hi.out Hz0.out Hz1.out Hz2.out rfl (by decide) _ _ _ rfl hown5 _ _ rfl _ rfl (fun _ => rfl) (by unfold maxLen; omega) (by omega) B5.size (Nat.le_refl _) B5 ?_; intro v' w' hown' hb' _)
        go_roundw
        case rel => exact ⟨k + 1, hlt, by go_num, hB.trans (hb'.mono hB.size), hb', by rw [HS2.out, List.length_append]; exact hown'⟩
        case measure => simp [intOf]; omega
    · obtain rfl : k = n := by omega
      obtain ⟨A9, c9, rfl, hS9⟩ := own_slice (by decide) hown
      go_wp2_with fail
      go_ret
      exact ⟨A9, c9, rfl, hS9, hBw⟩
end Go.Proofs.YtihepapjopcagaaGreatDoor
end

/- The references' Both (layer 14) and Total (layer 10). -/
section
namespace Go.Proofs.YtihepapjopcagaaGreatDoor
open Go Go.RowKit
set_option maxRecDepth 100000

def M.both (a b : List Int) : List Int := a.flatMap fun x => b.filter fun y => decide (y = x)

set_option maxHeartbeats 8000000 in
theorem rBoth_ok (A B : Option Addr) (ac bc : Nat) (a b : List Int) (w : World) (hA : Sl 1 icell w w.heap.size A a) (hB' : Sl 1 icell w w.heap.size B b) (ha : a.length ≤ 5000) (hb : b.length ≤ 5000) :
    Calls Tryz.prog 22 #[.slice A a.length ac, .slice B b.length bc] w (RetS 1 icell w (M.both a b)) := by
  obtain ⟨i0, hi, hz0, hz1, hz2⟩ := info_parts intInfo
  have Hi := Lib.hid hi; have Hz0 := Lib.hid hz0; have Hz1 := Lib.hid hz1; have Hz2 := Lib.hid hz2
  clear hi hz0 hz1 hz2
  go_enter Tryz.func22, Tryz.ntmps22
  go_wp2_with fail
  go_loopw [5, 6] (fun out i wr => ∃ (n : Nat) (os : List Int), n ≤ a.length ∧ i = .int .i64 n ∧ Below w.heap.size w wr ∧ os.length ≤ n * 5000 ∧ wr.ownsRow w.heap.size 3 1 out os.length (flat 1 icell os) ∧ Hid (os = M.both (a.take n) b)) (fun _ i _ => a.length - (intOf i).toNat)
  case atStart => exact ⟨0, [], Nat.zero_le _, rfl, Below.refl _ _, by simp, own_nil _ _ _ _ _, Lib.hid rfl⟩
  case round =>
    obtain ⟨n, os, hn, rfl, hB, hol, hown, HO⟩ := hrel
    by_cases hlt : n < a.length
    · have q7 : decide ((n : Int) < (a.length : Int)) = true := decide_eq_true (by omega)
      go_wp2_with fail
      go_loopw [5, 7] (fun out i wr => ∃ (k : Nat) (os : List Int), k ≤ b.length ∧ i = .int .i64 k ∧ Below w.heap.size w wr ∧ os.length ≤ n * 5000 + k ∧ wr.ownsRow w.heap.size 3 1 out os.length (flat 1 icell os) ∧ Hid (os = M.both (a.take n) b ++ (b.take k).filter fun y => decide (y = a[n]))) (fun _ i _ => b.length - (intOf i).toNat)
      case atStart => exact ⟨0, os, Nat.zero_le _, rfl, hB, by omega, hown, Lib.hid (by rw [HO.out]; simp)⟩
      case round =>
        clear hown hB hol HO os
        obtain ⟨k, os, hk, rfl, hB, hol, hown, HO⟩ := hrel
        by_cases hke : k < b.length
        · have A1 := (hA.below hB).more hB.size
          have B1 := (hB'.below hB).more hB.size
          obtain ⟨la, rfl, hlb, a0⟩ := A1.one_at hlt
          obtain ⟨lb, rfl, hlb2, b0⟩ := B1.one_at hke
          simp only [icell] at a0 b0
          have hlbA : (la.add n).block < wr.heap.size := by first | exact hlb | (rw [add_block]; exact hlb)
          have hlbB : (lb.add k).block < wr.heap.size := by first | exact hlb2 | (rw [add_block]; exact hlb2)
          have HT : Hid ((b.take (k + 1)).filter (fun y => decide (y = a[n])) = (b.take k).filter (fun y => decide (y = a[n])) ++ if b[k] = a[n] then [a[n]] else []) := Lib.hid (by
            rw [List.take_succ_eq_append_getElem hke, List.filter_append]
            congr 1
            by_cases h : b[k] = a[n]
            · simp [h]
            · simp [h])
          generalize a[n] = x at *
          generalize b[k] = y at *
          by_cases he : y = x
          · have q : (y == x) = true := by simp [he]
            have HT2 := Lib.hid (HT.out.trans (by rw [if_pos he]))
            clear he
            go_wp2_with fail
            refine wp_region_kept wr.heap.size wr (by kernel_rfl) (by kernel_rfl) (Below.refl _ _) ?_
            repeat (go_big_quiet_step (fail))
            refine wpQuiet_nil ?_
            rintro w5 ⟨⟨_, hb5⟩, rfl⟩
            have hown5 := own_below hown hb5
            have B5 := after_ hB hb5
            have a5 := (hb5.cell hlbA).trans a0
            clear a0 b0
            go_wp2_with (at_builtin; refine wpList_push (w0 := w) (cell := icell) (y := x) rfl _ _ _ rfl w.heap.size w.heap.size 3 i0 _ 8 Tryz.underlying28 Hi.out Hz0.out Hz1.out Hz2.out rfl (by decide) _ _ _ rfl hown5 _ _ rfl _ rfl (fun _ => rfl) (by unfold maxLen; omega) (by omega) B5.size (Nat.le_refl _) B5 ?_; intro v' w' hown' hb' _)
            go_roundw
            case rel => exact ⟨k + 1, os ++ [x], hke, by go_num, hb', by simp; omega, by rw [List.length_append]; exact hown', Lib.hid (by rw [HT2.out, ← List.append_assoc, ← HO.out])⟩
            case measure => simp [intOf]; omega
          · have q : (y == x) = false := by simp [he]
            have HT2 := Lib.hid (HT.out.trans (by rw [if_neg he]))
            clear he
            go_wp2_with fail
            refine wp_region_kept wr.heap.size wr (by kernel_rfl) (by kernel_rfl) (Below.refl _ _) ?_
            repeat (go_big_quiet_step (fail))
            refine wpQuiet_nil ?_
            rintro w5 ⟨⟨_, hb5⟩, rfl⟩
            have hown5 := own_below hown hb5
            go_wp2_with fail
            go_roundw
            case rel => exact ⟨k + 1, os, hke, by go_num, after_ hB hb5, by omega, hown5, Lib.hid (by rw [HT2.out, List.append_nil]; exact HO.out)⟩
            case measure => simp [intOf]; omega
        · have HO2 : Hid (os = M.both (a.take (n + 1)) b) := Lib.hid (by
            have hbk : b.take k = b := List.take_of_length_le (by omega)
            rw [HO.out, hbk, List.take_succ_eq_append_getElem hlt]
            unfold M.both
            rw [List.flatMap_append]
            simp)
          go_wp2_with fail
          go_roundw
          case rel => exact ⟨n + 1, os, hlt, by go_num, hB, by omega, hown, HO2⟩
          case measure => simp [intOf]; omega
    · obtain rfl : n = a.length := by omega
      obtain ⟨A9, c9, rfl, hS9⟩ := own_slice (by decide) hown
      have HO2 : Hid (os = M.both a b) := Lib.hid (by rw [HO.out, List.take_length])
      go_wp2_with fail
      go_ret
      exact ⟨A9, c9, by rw [HO2.out]; rfl, by rw [← HO2.out]; exact hS9, hB⟩

set_option maxHeartbeats 16000000 in
theorem rTot_ok (W H : Int) (GA PA : Option Addr) (gc pc gl : Nat) (P : List Int) (A : Option Addr) (c : Nat) (l : List Int) (w : World) (hp : Sl 1 icell w w.heap.size PA P) (hl : Sl 1 icell w w.heap.size A l) (hW : 1 ≤ W ∧ W ≤ 64) (hH : 1 ≤ H ∧ H ≤ 64) (hPl : (P.length : Int) = W * H) (hPv : ∀ g ∈ P, 0 ≤ g ∧ g ≤ 1000000) (hlen : l.length ≤ 100000) (hin : ∀ x ∈ l, 0 ≤ x ∧ x < W * H) :
    Calls Tryz.prog 19 #[tv W H GA PA gl gc P.length pc, .slice A l.length c] w fun e w' => e = .returned (.tuple #[.int .i64 (M.total P l), .bool true]) ∧ Below w.heap.size w w' := by
  obtain ⟨V, HW, x0, hB, -⟩ := boxes1 w #[.int .i64 W, .int .i64 H, .slice GA gl gc, .slice PA P.length pc] 30
  obtain ⟨wh1, wh2⟩ := M.wh_le hW hH
  obtain ⟨n, hn⟩ : ∃ n : Nat, W * H = n := ⟨(W * H).toNat, by omega⟩
  have HIN : Hid (∀ k (hk : k < l.length), ∃ i : Nat, l[k] = (i : Int) ∧ i < n) := Lib.hid (fun k hk => by
    have := hin l[k] (List.getElem_mem hk)
    exact ⟨l[k].toNat, by omega, by omega⟩)
  have HPL : Hid (P.length = n ∧ ∀ g ∈ P, 0 ≤ g ∧ g ≤ 1000000) := Lib.hid ⟨by omega, hPv⟩
  have hn4 : n ≤ 4096 := by omega
  have hmul : W * H = (n : Int) := hn
  clear hin hPl hPv
  go_enter Tryz.func19, Tryz.ntmps19
  go_wp2_with fail
  rw [HW.out]
  go_loopw [6, 7, 8, 9] (fun t i _ _ wr => ∃ k : Nat, k ≤ l.length ∧ i = .int .i64 k ∧ t = .int .i64 (M.totTo P l k) ∧ Below w.heap.size w wr ∧ Below V.heap.size V wr) (fun _ i _ _ _ => l.length - (intOf i).toNat)
  case atStart => exact ⟨0, Nat.zero_le _, rfl, rfl, hB, Below.refl _ _⟩
  case round =>
    obtain ⟨k, hk, rfl, rfl, hBw, hBr⟩ := hrel
    by_cases hlt : k < l.length
    · have q7 : decide ((k : Int) < (l.length : Int)) = true := decide_eq_true (by omega)
      obtain ⟨i, hie, hin⟩ := HIN.out k hlt
      have y0 := x0.below hBr
      have l0 := y0.lt
      have L1 := (hl.below hBw).more hBw.size
      obtain ⟨la, rfl, hlb, a0⟩ := L1.one_at hlt
      have hlbA : (la.add k).block < wr.heap.size := by first | exact hlb | (rw [add_block]; exact hlb)
      simp only [icell] at a0
      rw [hie] at a0
      obtain ⟨c0, c1, c2, c3⟩ := y0.c4
      have HTS := Lib.hid (M.totTo_succ (P := P) hlt)
      rw [hie] at HTS
      have htb := M.totTo_bd (l := l) HPL.out.2 k
      have HIE := Lib.hid hie
      clear hie
      have q1 : decide ((i : Int) < 0) = false := decide_eq_false (by omega)
      have q2 : decide ((n : Int) ≤ (i : Int)) = false := decide_eq_false (by omega)
      go_wp2_with fail
      refine wp_region_kept wr.heap.size wr (by kernel_rfl) (by kernel_rfl) (Below.refl _ _) ?_
      repeat (go_big_quiet_step (fail))
      refine wpQuiet_nil ?_
      rintro w5 ⟨⟨_, hb5⟩, rfl⟩
      have B5 := after_ hBw hb5
      have BV5 := after_ hBr hb5
      clear c0 c1 c2 c3 a0 q1 q2
      go_wp2_with fail
      go_loopw [8, 9] (fun g j wq => ∃ m : Nat, m ≤ k ∧ j = .int .i64 m ∧ Below w.heap.size w wq ∧ Below V.heap.size V wq ∧ ∃ b, g = .bool b ∧ Hid (b = decide ((i : Int) ∈ l.take m))) (fun _ j _ => k - (intOf j).toNat)
      case atStart => exact ⟨0, Nat.zero_le _, rfl, B5, BV5, false, rfl, Lib.hid (by simp)⟩
      case round =>
        obtain ⟨m, hm, rfl, hBq, hBVq, b, rfl, HB⟩ := hrel
        have L2 := (hl.below hBq).more hBq.size
        obtain ⟨la', e', hlb', a0⟩ := L2.one_at hlt
        obtain rfl := Option.some.inj e'
        clear e'
        have hlbA' : (la.add k).block < wr.heap.size := by first | exact hlb' | (rw [add_block]; exact hlb')
        simp only [icell] at a0
        rw [HIE.out] at a0
        by_cases hmk : m < k
        · have hml : m < l.length := by omega
          obtain ⟨la'', e', hlb'', b0⟩ := L2.one_at hml
          obtain rfl := Option.some.inj e'
          clear e'
          have hlbB' : (la.add m).block < wr.heap.size := by first | exact hlb'' | (rw [add_block]; exact hlb'')
          simp only [icell] at b0
          have HN : Hid (∀ b', b' = (b || decide (l[m] = (i : Int))) → b' = decide ((i : Int) ∈ l.take (m + 1))) := Lib.hid (fun b' h => by
            rw [h, HB.out, List.take_succ_eq_append_getElem hml]
            rw [Bool.eq_iff_iff, Bool.or_eq_true, decide_eq_true_eq, decide_eq_true_eq, decide_eq_true_eq, List.mem_append, List.mem_singleton]
            exact or_congr Iff.rfl eq_comm)
          generalize l[m] = y at *
          cases b
          · by_cases he : y = (i : Int)
            · have q : (y == (i : Int)) = true := by simp [he]
              have HN2 := Lib.hid (HN.out true (by simp [he]))
              clear he
              go_wp2_with fail
              refine wp_region_kept wr.heap.size wr (by kernel_rfl) (by kernel_rfl) (Below.refl _ _) ?_
              repeat (go_big_quiet_step (fail))
              refine wpQuiet_nil ?_
              rintro w6 ⟨⟨_, hb6⟩, rfl⟩
              go_wp2_with fail
              go_roundw
              case rel => exact ⟨m + 1, hmk, by go_num, after_ hBq hb6, after_ hBVq hb6, true, rfl, HN2⟩
              case measure => simp [intOf]; omega
            · have q : (y == (i : Int)) = false := by simp [he]
              have HN2 := Lib.hid (HN.out false (by simp [he]))
              clear he
              go_wp2_with fail
              refine wp_region_kept wr.heap.size wr (by kernel_rfl) (by kernel_rfl) (Below.refl _ _) ?_
              repeat (go_big_quiet_step (fail))
              refine wpQuiet_nil ?_
              rintro w6 ⟨⟨_, hb6⟩, rfl⟩
              go_wp2_with fail
              go_roundw
              case rel => exact ⟨m + 1, hmk, by go_num, after_ hBq hb6, after_ hBVq hb6, false, rfl, HN2⟩
              case measure => simp [intOf]; omega
          · have HN2 := Lib.hid (HN.out true (by simp))
            go_wp2_with fail
            refine wp_region_kept wr.heap.size wr (by kernel_rfl) (by kernel_rfl) (Below.refl _ _) ?_
            repeat (go_big_quiet_step (fail))
            refine wpQuiet_nil ?_
            rintro w6 ⟨⟨_, hb6⟩, rfl⟩
            go_wp2_with fail
            go_roundw
            case rel => exact ⟨m + 1, hmk, by go_num, after_ hBq hb6, after_ hBVq hb6, true, rfl, HN2⟩
            case measure => simp [intOf]; omega
        · obtain rfl : m = k := by omega
          cases b
          · have hmem : ¬ (i : Int) ∈ l.take m := by have := HB.out; rw [eq_comm, decide_eq_false_iff_not] at this; exact this
            have hpi : i < P.length := by have := HPL.out.1; omega
            have HT2 : Hid (M.totTo P l (m + 1) = M.totTo P l m + P[i]) := Lib.hid (by rw [HTS.out, if_neg hmem]; simp [hpi])
            have z0 := x0.below hBVq
            have l0' := z0.lt
            obtain ⟨c0, c1, c2, c3⟩ := z0.c4
            obtain ⟨pa, rfl, hpb, p0⟩ := ((hp.below hBq).more hBq.size).one_at hpi
            have hpbA : (pa.add i).block < wr.heap.size := by first | exact hpb | (rw [add_block]; exact hpb)
            have hpv := HPL.out.2 P[i] (List.getElem_mem hpi)
            simp only [icell] at p0
            generalize P[i] = pv at *
            clear hmem
            go_wp2_with fail
            refine wp_region_kept wr.heap.size wr (by kernel_rfl) (by kernel_rfl) (Below.refl _ _) ?_
            repeat (go_big_quiet_step (fail))
            refine wpQuiet_nil ?_
            rintro w6 ⟨⟨_, hb6⟩, rfl⟩
            go_wp2_with fail
            go_roundw
            case rel => exact ⟨m + 1, hlt, by go_num, by rw [HT2.out], after_ hBq hb6, after_ hBVq hb6⟩
            case measure => simp [intOf]; omega
          · have hmem : (i : Int) ∈ l.take m := by have := HB.out; rw [eq_comm, decide_eq_true_eq] at this; exact this
            have HT2 : Hid (M.totTo P l (m + 1) = M.totTo P l m) := Lib.hid (by rw [HTS.out, if_pos hmem]; omega)
            clear hmem
            go_wp2_with fail
            go_roundw
            case rel => exact ⟨m + 1, hlt, by go_num, by rw [HT2.out], hBq, hBVq⟩
            case measure => simp [intOf]; omega
    · obtain rfl : k = l.length := by omega
      go_wp2_with fail
      go_ret2
      exact ⟨rfl, hBw⟩
end Go.Proofs.YtihepapjopcagaaGreatDoor
end

/- Layer 15: Ratio, check, disturbed; layer 10: At. -/
section
namespace Go.Proofs.YtihepapjopcagaaGreatDoor
open Go Go.RowKit
set_option maxRecDepth 100000

def M.okOff (o : Int) : Bool := decide (-1 ≤ o ∧ o ≤ 1)
def M.ratio (o : Int) : Int := if o = 0 then 30 else -46
theorem M.okOff_iff {o : Int} : M.okOff o = true ↔ o = 0 ∨ o = -1 ∨ o = 1 := by unfold M.okOff; rw [decide_eq_true_eq]; omega
theorem M.okS_eq {W H : Int} {G P : List Int} {s : St} : M.okS W H G P s = (M.svalid s && M.has W H G P s.x s.y) := by
  unfold M.okS
  rw [M.okF_eq]
  cases M.svalid s <;> cases M.has W H G P s.x s.y <;> rfl

/-- Whether one of some stations disturbs a cell. -/
def M.dist (W : Int) (G : List Int) (a : St) (r cx cy : Int) (l : List St) : Bool := l.any fun b => decide (M.field W G a cx cy - M.field W G b cx cy < r)

end Go.Proofs.YtihepapjopcagaaGreatDoor
end
