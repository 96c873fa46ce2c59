/- A bundle of texts: GhB7. -/
import Derived.Test.YtjoomgojnpcbeaaDoorK17
import Derived.Test.YtjoomgojnpcbeaaDoorK23
section
namespace Go.Proofs.YtjoomgojnpcbeaaDoor
open Go Go.RowKit Gh
set_option maxRecDepth 100000
theorem Box.same {w : World} {b : Nat} {cs : Array Value} {t : TypeId} (h : Box w b cs t) {i : Nat} {v : Value} (hv : cs[i]? = some v) : w.setCell ⟨b, i, none⟩ v = w := by
  have hh : (w.setCell ⟨b, i, none⟩ v).heap = w.heap := by
    apply Array.ext_getElem?
    intro k
    by_cases e : b = k
    · subst e
      have h1 := h.set i v
      unfold Box at h h1
      rw [h1, h]
      have : cs.setIfInBounds i v = cs := by
        apply Array.ext_getElem?
        intro j
        rw [Array.getElem?_setIfInBounds]
        split
        · rename_i e; subst e
          split
          · exact hv.symm
          · rename_i hj
            rw [Array.getElem?_eq_none (by omega)] at hv
            cases hv
        · rfl
      rw [this]
    · exact heap_setCell_other w ⟨b, i, none⟩ k v (fun h => e h.symm)
  show { w with heap := (w.setCell ⟨b, i, none⟩ v).heap } = w
  rw [hh]
namespace Gh
def cutsTo (R : List Nat) (k : Nat) : List Nat := (List.range k).filter fun v => decide (1 < (found R).sh v)
theorem cutsTo_yes {R : List Nat} {k : Nat} (h : 1 < (found R).sh k) : cutsTo R (k + 1) = cutsTo R k ++ [k] := by
  unfold cutsTo
  rw [List.range_succ, List.filter_append, List.filter_cons_of_pos (by simpa using h)]
  rfl
theorem cutsTo_no {R : List Nat} {k : Nat} (h : ¬ 1 < (found R).sh k) : cutsTo R (k + 1) = cutsTo R k := by
  unfold cutsTo
  rw [List.range_succ, List.filter_append, List.filter_cons_of_neg (by simpa using h)]
  simp
theorem cutsTo_len (R : List Nat) (k : Nat) : (cutsTo R k).length ≤ k := by
  unfold cutsTo
  exact Nat.le_trans (List.length_filter_le _ _) (by simp)
end Gh
set_option maxHeartbeats 64000000 in
theorem ghBlocks_ok (P : Option Addr) (R : List Nat) (w : World) (h : GV w (.pointer P) R) (hR : R.length ≤ 512) (hfit : ∀ v x, (Dg.row R v).testBit x = true → x < R.length) (ht : Tab64 w) :
    Calls Tryd.prog 17 #[.pointer P] w fun e w' => ∃ (v : Value) (ls : List SLc) (A : Option Addr) (c : Nat), e = .returned (.tuple #[v, .slice A (cuts R).length c]) ∧ LO w' w.heap.size v ls ∧ ls.map (·.xs) = (blks R).map bsl ∧ Sl 1 icell w' w'.heap.size A (bsl (cuts R)) ∧ Below w.heap.size w w' := by
  obtain ⟨i0, hi0, hz0, hz1, hz2⟩ := info_parts intInfoD
  have Hi := Lib.hid hi0; have Hz0 := Lib.hid hz0; have Hz1 := Lib.hid hz1; have Hz2 := Lib.hid hz2
  clear hi0 hz0 hz1 hz2
  obtain ⟨V, HW, x1, hB, hsV⟩ := boxes1 w #[.pointer P] 24
  have HF := Lib.hid hfit
  clear hfit
  have HSV := Lib.hid hsV
  have c1 := x1.c1
  have kL := gvLen_ok (.pointer P) R V (h.next hB)
  have hV := HW.out
  clear hsV
  go_enter Tryd.func17, Tryd.ntmps17
  go_wp2_with fail
  clear hV
  refine kL.mono ?_
  rintro e w1 ⟨rfl, rfl⟩
  clear kL c1
  obtain ⟨U1, HU1, xT, hbU1, hsU1⟩ := boxes1 V #[.int .i64 0] 3
  have HSU1 := Lib.hid hsU1
  have hU1 := HU1.out
  clear hsU1
  have t0 := xT.c1
  have t1 := xT.frozen 0
  have t2 := xT.same (i := 0) (v := .int .i64 0) rfl
  have hsf := fun (a : Addr) (c : Array Value) (w : World) => run_store Tryd.prog w a (.func (.func 46) #[] c) .plain rfl
  go_wp2_with (first
    | (at_make; (
      refine (show wpList _ _ _ _ _ U1 from ?_)
      refine wpList_make_full _ rfl _ _ 31 rfl w.heap.size 3 i0 _ 1 Tryd.underlying31 Hi.out Hz0.out Hz1.out .i64 .i64 _ _ R.length rfl rfl rfl rfl (by rw [Hz2.out]; omega) (by unfold maxLen; omega) (by have := HSU1.out; have := HSV.out; omega) ?_
      intro w2 hown2 hg2
      obtain ⟨U2, HU2, x2, hbU2, hsU2⟩ := boxes1 w2 #[.slice (some ⟨U1.heap.size, 0, none⟩) R.length R.length] 31
      have HSU2 := Lib.hid hsU2
      have hU2 := HU2.out
      clear hsU2))
    | (at_make; (
      refine (show wpList _ _ _ _ _ U2 from ?_)
      refine wpList_make_full _ rfl _ _ 31 rfl w.heap.size 3 i0 _ 1 Tryd.underlying31 Hi.out Hz0.out Hz1.out .i64 .i64 _ _ R.length rfl rfl rfl rfl (by rw [Hz2.out]; omega) (by unfold maxLen; omega) (by have := HSU1.out; have := HSV.out; have := HSU2.out; have := hg2.size; omega) ?_
      intro w3 hown3 hg3
      obtain ⟨U3, HU3, x3, hbU3, hsU3⟩ := boxes1 w3 #[.slice (some ⟨U2.heap.size, 0, none⟩) R.length R.length] 31
      have HSU3 := Lib.hid hsU3
      have hU3 := HU3.out
      clear hsU3))
    | (at_make; (
      refine (show wpList _ _ _ _ _ U3 from ?_)
      refine wpList_make_full _ rfl _ _ 31 rfl w.heap.size 3 i0 _ 1 Tryd.underlying31 Hi.out Hz0.out Hz1.out .i64 .i64 _ _ R.length rfl rfl rfl rfl (by rw [Hz2.out]; omega) (by unfold maxLen; omega) (by have := HSU1.out; have := HSV.out; have := HSU2.out; have := hg2.size; have := HSU3.out; have := hg3.size; omega) ?_
      intro w4 hown4 hg4
      obtain ⟨U4, HU4, x4, hbU4, hsU4⟩ := boxes1 w4 #[.slice (some ⟨U3.heap.size, 0, none⟩) R.length R.length] 31
      have HSU4 := Lib.hid hsU4
      have hU4 := HU4.out
      clear hsU4
      obtain ⟨U5, HU5, xK, xB, xV, hbU5, hsU5⟩ := boxes3 U4 #[.slice none 0 0] 31 #[.slice none 0 0] 28 #[.nilFunc] 80
      have HSU5 := Lib.hid hsU5
      have hU5 := HU5.out
      clear hsU5
      have t3 : U5.cell? ⟨U4.heap.size + 1 + 1, 0, none⟩ = some .nilFunc := xV.c1
      have t4 : U5.frozen? ⟨U4.heap.size + 1 + 1, 0, none⟩ = false := xV.frozen 0)))
  clear hsf t0 t1 t2 t3 t4 hU1 hU2 hU3 hU4 hU5
  have xV2 := xV.set 0 (.func (.func 46) #[] #[ptr U4.heap.size, ptr V.heap.size, ptr w2.heap.size, ptr w3.heap.size, ptr w.heap.size, ptr (U4.heap.size + 1 + 1), ptr w4.heap.size, ptr (U4.heap.size + 1)])
  have em := made_flat (cell := icell) (size := 1) (x0 := (0 : Int)) (by decide) (Value.int .i64 0).cells rfl R.length
  have em2 : flat 1 icell (List.replicate R.length (0 : Int)) = flat 1 icell (nfl R.length fun _ => 0) := by
    congr 1
    unfold nfl Dg.fl
    rw [List.map_const', List.length_range]
    rfl
  rw [em, em2] at hown2 hown3 hown4
  clear em em2
  have hz1 := HSV.out
  have hz2 := HSU1.out
  have hz3 := (own_lt hown2).2
  have hz4 := HSU2.out
  have hz5 := (own_lt hown3).2
  have hz6 := HSU3.out
  have hz7 := (own_lt hown4).2
  have hz8 := HSU4.out
  have hz9 := HSU5.out
  obtain ⟨a, ha⟩ : ∃ a : BA, a = ⟨w.heap.size, w.heap.size, V.heap.size, U1.heap.size, w2.heap.size, U2.heap.size, w3.heap.size, U3.heap.size, w4.heap.size, U4.heap.size, U4.heap.size + 1, U4.heap.size + 1 + 1⟩ := ⟨_, rfl⟩
  have aok : a.Ok := by
    subst ha
    constructor <;> dsimp only <;> omega
  have hgb2 : Below U1.heap.size U1 w2 := (Below.refl _ _).grown hg2 (Nat.le_refl _) (by simp)
  have hgb3 : Below U2.heap.size U2 w3 := (Below.refl _ _).grown hg3 (Nat.le_refl _) (by simp)
  have hgb4 : Below U3.heap.size U3 w4 := (Below.refl _ _).grown hg4 (Nat.le_refl _) (by simp)
  have b45 := hbU5
  have b35 := after_ hgb4 (after_ hbU4 b45)
  have b25 := after_ hgb3 (after_ hbU3 b35)
  have b15 := after_ hgb2 (after_ hbU2 b25)
  have xV3 : Box (U5.setCell ⟨U4.heap.size + 1 + 1, 0, none⟩ (.func (.func 46) #[] (caps a))) a.bV #[.func (.func 46) #[] (caps a)] 80 := by subst ha; exact xV2
  have st0 : BSt w (U5.setCell ⟨U4.heap.size + 1 + 1, 0, none⟩ (.func (.func 46) #[] (caps a))) a (.pointer P) R.length Gh.start (.slice none 0 0) (.slice none 0 0) [] := by
    have hg := grown_set U5 (U4.heap.size + 1 + 1) 0 (.func (.func 46) #[] (caps a))
    have hcp : caps a = #[ptr U4.heap.size, ptr V.heap.size, ptr w2.heap.size, ptr w3.heap.size, ptr w.heap.size, ptr (U4.heap.size + 1 + 1), ptr w4.heap.size, ptr (U4.heap.size + 1)] := by rw [ha]
    generalize hcq : caps a = cps at *
    subst ha
    dsimp only at aok hg xV3
    have bw5 : Below w.heap.size w U5 := hB.trans ((after_ hbU1 b15).mono hB.size)
    have ne : ∀ b, b < U4.heap.size + 1 + 1 → some b ≠ some (U4.heap.size + 1 + 1) := fun b hb e => by have := Option.some.inj e; omega
    have bV5 := after_ hbU1 b15
    exact { bel := bw5.grown hg bw5.size (fun k e => by have := Option.some.inj e; omega), x1 := (x1.below bV5).grown hg (ne _ (by omega)), xT := (xT.below b15).grown hg (ne _ (by omega)), xE := (x2.below b25).grown hg (ne _ (by omega)), xL := (x3.below b35).grown hg (ne _ (by omega)), xS := (x4.below b45).grown hg (ne _ (by omega)), xK := xK.grown hg (ne _ (by omega)), xB := xB.grown hg (ne _ (by omega)), xV := by rw [hcq]; exact xV3, oE := (own_below hown2 (after_ hbU2 b25)).kept hg (.inr (ne U1.heap.size (by omega))), oL := (own_below hown3 (after_ hbU3 b35)).kept hg (.inr (ne U2.heap.size (by omega))), oS := (own_below hown4 (after_ hbU4 b45)).kept hg (.inr (ne U3.heap.size (by omega))), oK := own_nil _ _ _ 1 icell, lo := LO.none_ _ _, lsx := rfl, off := fun t ht => absurd ht (by simp) }
  have e0 : a.h = w.heap.size := by rw [ha]
  obtain ⟨X, hX⟩ : ∃ X, U5.setCell ⟨U4.heap.size + 1 + 1, 0, none⟩ (.func (.func 46) #[] #[ptr U4.heap.size, ptr V.heap.size, ptr w2.heap.size, ptr w3.heap.size, ptr w.heap.size, ptr (U4.heap.size + 1 + 1), ptr w4.heap.size, ptr (U4.heap.size + 1)]) = X := ⟨_, rfl⟩
  rw [hX]
  have st1 : BSt w X a (.pointer P) R.length Gh.start (.slice none 0 0) (.slice none 0 0) [] := by
    rw [← hX]
    have hcp : caps a = #[ptr U4.heap.size, ptr V.heap.size, ptr w2.heap.size, ptr w3.heap.size, ptr w.heap.size, ptr (U4.heap.size + 1 + 1), ptr w4.heap.size, ptr (U4.heap.size + 1)] := by rw [ha]
    rw [hcp] at st0
    exact st0
  have p1 : V.heap.size = a.bT := by rw [ha]
  have p2 : w2.heap.size = a.bE := by rw [ha]
  have p3 : w3.heap.size = a.bL := by rw [ha]
  have p4 : w4.heap.size = a.bS := by rw [ha]
  have p5 : U4.heap.size + 1 + 1 = a.bV := by rw [ha]
  have p6 : U4.heap.size + 1 = a.bB := by rw [ha]
  have p7 : U4.heap.size = a.bK := by rw [ha]
  have p8 : U1.heap.size = a.gE := by rw [ha]
  have p9 : U2.heap.size = a.gL := by rw [ha]
  have p10 : U3.heap.size = a.gS := by rw [ha]
  have p0 : w.heap.size = a.b1 := by rw [ha]
  have HP0 := Lib.hid p0
  rw [p5, p6, p7, p0, p1, p2, p3, p4, p8, p9, p10]
  clear p0 p1 p2 p3 p4 p5 p6 p7 p8 p9 p10 st0 xV3 xV2 hX ha b45 b35 b25 b15 hgb2 hgb3 hgb4 hz1 hz2 hz3 hz4 hz5 hz6 hz7 hz8 hz9 xV xB xK x4 x3 x2 xT x1 hbU5 hbU4 hbU3 hbU2 hbU1 hown2 hown3 hown4 hg2 hg3 hg4 hB
  have HV : Hid (∀ k, k < R.length → ∃ bg A c edges, P = some ⟨bg, 0, none⟩ ∧ VH w a bg A c R edges) := Lib.hid (fun k hk => by
    obtain ⟨bg, A, c, edges, e, hg⟩ := h.some_ (by omega)
    exact ⟨bg, A, c, edges, by injection e, aok, e0, hg, ht, hR, HF.out⟩)
  have HU := Lib.hid (upto_ok HF.out hR)
  go_loopw [25] (fun i wr => ∃ (k : Nat) (vK vB : Value) (ls : List SLc), k ≤ R.length ∧ i = .int .i64 k ∧ BSt w wr a (.pointer P) R.length (upto R k) vK vB ls) (fun i _ => R.length - (intOf i).toNat)
  case atStart => exact ⟨0, _, _, _, Nat.zero_le _, rfl, st1⟩
  case round =>
    clear st1
    obtain ⟨k, vK, vB, ls, hk, rfl, st⟩ := hrel
    obtain ⟨bi, di, hs0⟩ := HU.out k hk
    by_cases hlt : k < R.length
    · have q0 : decide ((k : Int) < (R.length : Int)) = true := decide_eq_true (by omega)
      have x0 : (0 : Int) ≤ (k : Int) := by omega
      have x1 : (k : Int) < (R.length : Int) := by omega
      have c0 := st.xE.c1
      have c1 := (num_at st.oE hlt).1
      by_cases h0 : (upto R k).ent k = 0
      · have HN : Hid (upto R (k + 1) = { visit R R.length k (-1) (upto R k) with stack := [] }) := Lib.hid (by
          conv => lhs; unfold upto
          dsimp only
          rw [if_pos h0])
        have hl : left R.length (upto R k) ≤ R.length := by have := bi.ct; omega
        have vi := visit_vi HF.out hR R.length k (-1) _ hlt bi h0 hl
        obtain ⟨bg, A, c, edges, rfl, H⟩ := HV.out k hlt
        have kV := visit_ok w a bg A c R edges H R.length k (-1) _ wr vK vB ls st bi hlt h0 hl
        rw [show (#[Value.int .i64 (k : Int), .int .i64 (-1)] ++ caps a) = #[Value.int .i64 (k : Int), .int .i64 (-1), ptr a.bK, ptr a.bT, ptr a.bE, ptr a.bL, ptr a.b1, ptr a.bV, ptr a.bS, ptr a.bB] from rfl] at kV
        have c2 := st.xV.c1
        have q1 : ((((upto R k).ent k : Nat) : Int) == 0) = true := by rw [h0]; rfl
        generalize visit R R.length k (-1) (upto R k) = s1 at *
        rw [h0] at c1
        clear q1
        go_wp2_with fail
        refine kV.mono ?_
        rintro e W1 ⟨rfl, vK1, vB1, ls1, st1, fr1⟩
        clear kV c0 c1 c2 st fr1
        obtain ⟨rest, hrest⟩ := vi.stk
        obtain ⟨gK, cK, rfl, hgK, hgK2⟩ := st1.oK.form (by rw [hrest, List.length_append, List.length_cons]; omega)
        have hcap := own_cap st1.oK
        have c3 := st1.xK.c1
        have f3 := st1.xK.frozen 0
        have oK2 := stk_trunc st1.oK (k := 0) (Nat.zero_le _)
        have st2 : BSt w (W1.setCell ⟨a.bK, 0, none⟩ (.slice (some ⟨gK, 0, none⟩) 0 cK)) a (.pointer (some ⟨bg, 0, none⟩)) R.length { s1 with stack := [] } (.slice (some ⟨gK, 0, none⟩) 0 cK) vB1 ls1 := st1.stk (st := []) (v' := .slice (some ⟨gK, 0, none⟩) 0 cK) aok oK2 (World.grownBy.refl W1 _) (.inl rfl)
        obtain ⟨Y, hY⟩ : ∃ Y, W1.setCell ⟨a.bK, 0, none⟩ (.slice (some ⟨gK, 0, none⟩) 0 cK) = Y := ⟨_, rfl⟩
        rw [hY] at st2
        clear st1 oK2 hrest vi
        go_wp2_with fail
        go_roundw
        case rel => exact ⟨k + 1, _, _, _, hlt, by go_num, by rw [HN.out]; exact st2⟩
        case measure => simp [intOf]; omega
      · have HN : Hid (upto R (k + 1) = upto R k) := Lib.hid (by
          conv => lhs; unfold upto
          dsimp only
          rw [if_neg h0])
        have q1 : ((((upto R k).ent k : Nat) : Int) == 0) = false := by simpa using h0
        generalize upto R k = s1 at *
        go_wp2_with fail
        go_roundw
        case rel => exact ⟨k + 1, _, _, _, hlt, by go_num, by rw [HN.out]; exact st⟩
        case measure => simp [intOf]; omega
    · obtain rfl : k = R.length := by omega
      have q0 : decide ((R.length : Int) < (R.length : Int)) = false := decide_eq_false (by omega)
      have hfd : upto R R.length = found R := rfl
      rw [hfd] at st bi di hs0
      have hbl : (ls.map (·.xs)).Nodup := by
        rw [st.lsx]
        refine List.Pairwise.map bsl (R := fun a b => a ≠ b) (fun x y hxy e => hxy (map_inj e)) di.nd
      have hll : ls.length ≤ 512 := by
        have h1 := congrArg List.length st.lsx
        rw [List.length_map, List.length_map] at h1
        have := bi.cb; have := bi.ct; omega
      have hxl : ∀ s ∈ ls, s.xs.length ≤ 1000 := fun s hs => by
        have h1 : s.xs ∈ (found R).blocks.map bsl := by rw [← st.lsx]; exact List.mem_map.2 ⟨s, hs, rfl⟩
        obtain ⟨b, hb, e⟩ := List.mem_map.1 h1
        rw [← e, bsl_len]
        have := di.len b hb
        omega
      obtain ⟨vA, vc, rfl, hvS⟩ := own_slice (by decide) st.lo.outer
      have c0 := st.xB.c1
      have kS := sortX_ok vA vc (a.bV + 1) ls wr st.lo hxl hbl hll
      have hlw := st.lt
      have hxc := st.xB
      have hsc := st.xS
      have hoS := st.oS
      have hbel := st.bel
      have hlsx := st.lsx
      clear st bi hbl hxl hvS HU HV
      go_wp2_with fail
      refine kS.mono ?_
      rintro e W3 ⟨rfl, ls', hlo, hperm, hsort, hb3⟩
      have HR1 : Hid (ls'.map (·.xs) = (blks R).map bsl) := Lib.hid (by
        have h1 : (ls'.map (·.xs)).Perm ((blks R).map bsl) := by
          refine (hperm.map _).trans ?_
          rw [hlsx]
          exact ((isort_perm _).map bsl).symm
        refine h1.eq_of_pairwise (le := fun x y : List Int => lexC x y ≤ 0) (fun x y _ _ h2 h3 => lexC_zero (by rw [lexC_swap] at h3; omega)) (List.pairwise_map.2 hsort) (List.pairwise_map.2 ?_)
        exact (isort_sorted _).imp fun h => h)
      have hxc3 := hxc.belowB hb3 (by have := aok.all; omega)
      have hsc3 := hsc.belowB hb3 (by have := aok.all; omega)
      have hS3 : Sl 1 icell W3 (a.bV + 1) (some ⟨a.gS, 0, none⟩) (nfl R.length (found R).sh) := by
        have h1 := Sl.of_own (by decide) hoS
        refine Sl.below (fun q hq => ?_) hb3
        obtain ⟨ad, e, -, hc⟩ := h1 q hq
        exact ⟨ad, e, by have e2 := Option.some.inj e; rw [← e2]; have := aok.all; dsimp only; omega, hc⟩
      have hlW := hxc3.lt
      have hW3 : a.bV + 1 ≤ W3.heap.size := by have := hb3.size; omega
      have bw3 : Below w.heap.size w W3 := by rw [← e0]; exact hbel.trans (hb3.mono (by have := aok.all; omega))
      have hll' : ls'.length = ls.length := hperm.length_eq
      have HLL := Lib.hid hll'
      have hshb : ∀ j, (found R).sh j ≤ 512 := fun j => by
        obtain ⟨bi, -, -⟩ := upto_ok HF.out hR R.length (Nat.le_refl _)
        have := bi.sh j; have := bi.cb; have := bi.ct
        show (upto R R.length).sh j ≤ 512
        omega
      have HSHB := Lib.hid hshb
      clear hll' hshb hxc hsc hoS hbel hlsx hperm hsort hb3 q0
      go_wp2_with fail
      go_loopw [13, 42] (fun o i wq => ∃ (k : Nat), k ≤ R.length ∧ i = .int .i64 k ∧ Below W3.heap.size W3 wq ∧ wq.ownsRow W3.heap.size 3 1 o (cutsTo R k).length (flat 1 icell (bsl (cutsTo R k)))) (fun _ i _ => R.length - (intOf i).toNat)
      case atStart => exact ⟨0, Nat.zero_le _, rfl, Below.refl _ _, own_nil _ _ _ 1 icell⟩
      case round =>
        obtain ⟨k, hk, rfl, hBq, hown⟩ := hrel
        have xS4 := hsc3.below hBq
        have xB4 := hxc3.below hBq
        by_cases hlt : k < R.length
        · have q0 : decide ((k : Int) < (R.length : Int)) = true := decide_eq_true (by omega)
          have x0 : (0 : Int) ≤ (k : Int) := by omega
          have x1 : (k : Int) < (R.length : Int) := by omega
          have c0 := xS4.c1
          obtain ⟨ad, e1, -, c1⟩ := (hS3.below (hBq.mono hW3)).int_at (k := k) (by rw [nfl_len]; exact hlt)
          have e2 : ad = ⟨a.gS, 0, none⟩ := (Option.some.inj e1).symm
          subst e2
          rw [add_base, nfl_at] at c1
          have hle := HSHB.out k
          have hcl : (cutsTo R k).length ≤ 512 := by have := cutsTo_len R k; omega
          by_cases hs : 1 < (found R).sh k
          · have HC : Hid (cutsTo R (k + 1) = cutsTo R k ++ [k]) := Lib.hid (cutsTo_yes hs)
            have q1 : decide ((1 : Int) < ((found R).sh k : Int)) = true := decide_eq_true (by omega)
            generalize (found R).sh k = sk at *
            go_wp2_with (at_builtin; go_loud (
              refine wpList_push (w0 := W3) (cell := icell) (y := (k : Int)) rfl _ _ _ rfl W3.heap.size W3.heap.size 3 i0 _ 8 Tryd.underlying31 Hi.out Hz0.out Hz1.out Hz2.out rfl (by decide) _ _ _ rfl hown _ _ rfl _ rfl (fun _ => rfl) (by unfold maxLen; omega) (by omega) hBq.size (Nat.le_refl _) hBq ?_
              intro v' w' hown' hb' hg'))
            go_roundw
            case rel => exact ⟨k + 1, hlt, by go_num, hb', by rw [HC.out, bsl_snoc, List.length_append]; exact hown'⟩
            case measure => simp [intOf]; omega
          · have HC : Hid (cutsTo R (k + 1) = cutsTo R k) := Lib.hid (cutsTo_no hs)
            have q1 : decide ((1 : Int) < ((found R).sh k : Int)) = false := decide_eq_false (by omega)
            generalize (found R).sh k = sk at *
            go_wp2_with fail
            go_roundw
            case rel => exact ⟨k + 1, hlt, by go_num, hBq, by rw [HC.out]; exact hown⟩
            case measure => simp [intOf]; omega
        · obtain rfl : k = R.length := by omega
          have q0 : decide ((R.length : Int) < (R.length : Int)) = false := decide_eq_false (by omega)
          have e9 : cutsTo R R.length = cuts R := rfl
          rw [e9, ← bsl_len] at hown
          obtain ⟨A9, c9, rfl, hS9⟩ := own_slice (by decide) hown
          have c0 := xB4.c1
          go_wp2_with fail
          go_ret2
          exact ⟨.slice vA ls'.length vc, ls', A9, c9, by rw [HLL.out, ← bsl_len (cuts R)]; rfl, (hlo.below hBq).low (by have := aok.all; omega), HR1.out, hS9, bw3.trans (hBq.mono bw3.size)⟩
end Go.Proofs.YtjoomgojnpcbeaaDoor
end
