/- A bundle of texts: ReachS, Over. -/
import Derived.Test.YtciolgmljpamlaaGreatDoorC28
import Derived.Test.YtciolgmljpamlaaGreatDoorC07
import Derived.Test.YtciolgmljpamlaaGreatDoorC22
import Derived.Test.YtciolgmljpamlaaGreatDoorC26
import Derived.Maps.OwnIn
import Derived.Deep.RegionHeld3
section
namespace Go.Proofs.YtciolgmljpamlaaGreatDoor
open Go Go.RowKit
set_option maxRecDepth 100000
def M.reachL (W H : Int) (G : List Int) (l : List St) : List Int := l.flatMap fun s => M.area W H G s
theorem M.cellsTo_in {W : Int} {G : List Int} {cs : List CE} {n : Nat} : ∀ x ∈ M.cellsTo W G cs n, 0 ≤ x ∧ x < (n : Int) := by
  intro x hx
  unfold M.cellsTo at hx
  obtain ⟨i, hi, rfl⟩ := List.mem_map.1 hx
  have := List.mem_range.1 (List.mem_filter.1 hi).1
  omega
theorem M.cellsTo_area (W H : Int) (G : List Int) (bt bs : Nat) (s : St) (A : Option Addr) (c : Nat) : M.cellsTo W G [⟨bt, bs, s, A, c⟩] (W * H).toNat = M.area W H G s := by
  unfold M.cellsTo M.area M.areaTo M.allC
  simp
theorem held13 {w' : World} {b0 b1 : Nat} {W H : Int} {GA PA : Option Addr} {gc pc : Nat} {G P : List Int} {v : Value} {t : TypeId} (h0 : Box w' b0 #[.int .i64 W, .int .i64 H, .slice GA G.length gc, .slice PA P.length pc] 24) (h1 : Box w' b1 #[v] t) :
    w'.cell? ⟨b0, 0, none⟩ = some (.int .i64 W) ∧ w'.cell? ⟨b0, 1, none⟩ = some (.int .i64 H) ∧ w'.cell? ⟨b0, 2, none⟩ = some (.slice GA G.length gc) ∧ w'.cell? ⟨b0, 3, none⟩ = some (.slice PA P.length pc) ∧ w'.cell? ⟨b1, 0, none⟩ = some v := by
  obtain ⟨c0, c1, c2, c3⟩ := h0.c4
  exact ⟨c0, c1, c2, c3, h1.c1⟩
set_option maxHeartbeats 16000000 in
theorem reach_ok (W H : Int) (GA PA : Option Addr) (gc pc : Nat) (G P : List Int) (LA : Option Addr) (lc : Nat) (es : List SE) (w : World) (ht : Tab w) (hg : Sl 1 icell w w.heap.size GA G) (hp : Sl 1 icell w w.heap.size PA P) (hL : Sl 8 secell w w.heap.size LA es) (hP : Pats w es)
    (hl : es.length ≤ 20) (htv : M.tvalid W H G P = true) (hob : ∀ e ∈ es, M.okS W H G P e.s = true) :
    Calls Tryz.prog 107 #[tv W H GA PA G.length gc P.length pc, .slice LA es.length lc] w fun e w' => e = .returned (.tuple #[.int .i64 (M.total P (M.reachL W H G (es.map (·.s)))), .int .i64 0]) ∧ Below w.heap.size w w' := by
  obtain ⟨V, HW, x0, hB, hs⟩ := boxes1 w #[.int .i64 W, .int .i64 H, .slice GA G.length gc, .slice PA P.length pc] 24
  have HS := Lib.hid hs
  obtain ⟨r1, r2, r3, r4, r5, r6⟩ := M.tvalid_iff.1 htv
  obtain ⟨wh1, wh2⟩ := M.wh_le r1 r2
  have HC : Hid (M.chk W H G P (es.map (·.s)) = 0) := Lib.hid (by
    unfold M.chk
    rw [if_pos]
    rw [Bool.and_eq_true, List.all_eq_true]
    exact ⟨htv, fun s hs => by obtain ⟨e, he, rfl⟩ := List.mem_map.1 hs; exact hob e he⟩)
  have hpe : ∀ e ∈ es, e.s.pat.length ≤ 1000 := fun e he => by
    have h1 := (M.okS_iff.1 (hob e he)).1
    have h2 := (M.avalid_iff.1 (M.svalid_iff.1 h1).2.2.2.2.2.2).2.1
    omega
  have HPE := Lib.hid hpe
  have HOB := Lib.hid hob
  have HTV := Lib.hid htv
  have HR6 := Lib.hid r6
  have HR4 := Lib.hid r4
  have hgl : G.length ≤ 5000 := by omega
  have hpl : P.length ≤ 5000 := by omega
  clear hob htv r5 r6 hpe hs r3 r4
  obtain ⟨c0, c1, c2, c3⟩ := x0.c4
  have hV := HW.out
  obtain ⟨rr, HRR⟩ : ∃ rr, Hid (M.total P (M.reachL W H G (es.map (·.s))) = rr) := ⟨_, Lib.hid rfl⟩
  rw [HRR.out]
  refine calls_marks Tryz.func107 rfl ?_
  simp only [Tryz.ntmps107, List.size_toArray, List.length_cons, List.length_nil, Nat.reduceAdd, Nat.reduceSub, Array.replicate_succ, Array.replicate_zero, List.push_toArray, List.append_toArray, List.nil_append, List.cons_append]
  go_wp2_with fail
  clear hV c0 c1 c2 c3
  refine (check_any W H GA PA gc pc G P LA lc es V ((hg.below hB).more hB.size) ((hp.below hB).more hB.size) ((hL.below hB).more hB.size) (hP.below hB) (by omega) (by omega) (by omega) HPE.out).mono ?_
  rintro e w1 ⟨rfl, hb1⟩
  rw [HC.out]
  have B1 := after_ hB hb1
  have hmm := @run_makeMap Tryz.prog
  obtain ⟨U, HU⟩ : ∃ U, Hid ((w1.alloc (.map #[] 0)).alloc (.cells #[.map (some w1.heap.size)] 169) = U) := ⟨_, Lib.hid rfl⟩
  have hU := HU.out
  go_wp2_with fail
  clear hU hmm
  have hbU : Below w1.heap.size w1 U := by rw [← HU.out]; exact ((Below.refl _ _).alloc (Nat.le_refl _) _).alloc (by simp) _
  have BU := after_ B1 hbU
  have hownU : U.ownsMap Tryz.prog 3 (plainElem (H := Unit) Tryz.prog 3) w1.heap.size 0 (.map []) := by rw [← HU.out]; exact (World.ownsMap_made _ _ _ _).alloc _
  have xmU : Box U (w1.heap.size + 1) #[.map (some w1.heap.size)] 169 := by
    rw [← HU.out]
    have := Box.new (w1.alloc (.map #[] 0)) #[.map (some w1.heap.size)] 169
    rwa [show (w1.alloc (.map #[] 0)).heap.size = w1.heap.size + 1 by simp] at this
  have xtU := (x0.below hb1).below hbU
  have hw1 : w.heap.size < w1.heap.size := by have := HS.out; have := hb1.size; omega
  refine wp_loop_marks [20, 9, 21, 22, 23, 24, 25, 26, 27, 28, 29, 35] (fun m us ds W0 => ∃ (k n : Nat) (D : DataW Unit) (j9 j21 j22 j23 j24 j25 j26 j27 j28 j29 j35 : Value), us = [.int .i64 k, j9, j21, j22, j23, j24, j25, j26, j27, j28, j29, j35] ∧ m = es.length - k ∧ k ≤ es.length ∧ n ≤ 4096 * k ∧ Below w.heap.size w W0 ∧ Box W0 w.heap.size #[.int .i64 W, .int .i64 H, .slice GA G.length gc, .slice PA P.length pc] 24 ∧ Box W0 (w1.heap.size + 1) #[.map (some w1.heap.size)] 169 ∧ W0.ownsMap Tryz.prog 3 (plainElem (H := Unit) Tryz.prog 3) w1.heap.size n D ∧ Hid (KeysAre D (M.reachL W H G ((es.take k).map (·.s)))) ∧ Marks w.heap.size W0.heap.size ds W0) es.length ⟨0, 0, .map [], _, _, _, _, _, _, _, _, _, _, _, rfl, rfl, Nat.zero_le _, by omega, BU, xtU, xmU, hownU, Lib.hid (by simpa [M.reachL] using KeysAre.none_), Marks.none_⟩ ?_
  clear hownU xmU xtU
  rintro m us ds W0 ⟨k, n, D, j9, j21, j22, j23, j24, j25, j26, j27, j28, j29, j35, rfl, rfl, hk, hn, hB0, xt, xm, hown, HK, hM⟩
  simp only [over, List.zip_cons_cons, List.zip_nil_left, List.foldl_cons, List.foldl_nil, List.setIfInBounds_toArray, List.set_cons_succ, List.set_cons_zero]
  by_cases hlt : k < es.length
  · obtain ⟨la, hla, hlb, a0, a1, a2, a3, a4, a5, a6, a7⟩ := ((hL.below hB0).more hB0.size).st8 hlt
    have hSk := hP.at_ hlt
    have HKO := Lib.hid (HOB.out es[k] (List.getElem_mem hlt))
    have HTK : Hid (M.reachL W H G ((es.take (k + 1)).map (·.s)) = M.reachL W H G ((es.take k).map (·.s)) ++ M.area W H G es[k].s) := Lib.hid (by
      unfold M.reachL
      rw [List.take_succ_eq_append_getElem hlt, List.map_append, List.flatMap_append]
      simp)
    generalize es[k] = ek at *
    obtain ⟨s, A', c'⟩ := ek
    simp only at a0 a1 a2 a3 a4 a5 a6 a7 hSk HKO HTK
    subst hla
    obtain ⟨X, HX, u0, hbX, hsX⟩ := boxes1 W0 (stc s A' c') 40
    have HSX := Lib.hid hsX
    clear hsX
    have hX := HX.out
    go_wp2_with fail
    clear hX a0 a1 a2 a3 a4 a5 a6 a7
    have y0 : Box X.drew w.heap.size #[.int .i64 W, .int .i64 H, .slice GA G.length gc, .slice PA P.length pc] 24 := xt.below hbX.drew
    have y1 : Box X.drew W0.heap.size (stc s A' c') 40 := u0
    have hsD : X.drew.heap.size = W0.heap.size + 1 := HSX.out
    have HSD := Lib.hid hsD
    clear hsD
    have K0 := held12 y0 y1
    have BD : Below W0.heap.size W0 X.drew := hbX.drew
    have kA : ∀ wa, Below X.drew.heap.size X.drew wa → _ := fun wa hba => held12 (y0.below hba) (y1.below hba)
    have kB : ∀ wa o, Below X.drew.heap.size X.drew wa → _ := fun wa o hba => held12 ((y0.below hba).below ((Below.refl wa.heap.size wa).alloc (Nat.le_refl _) o)) ((y1.below hba).below ((Below.refl wa.heap.size wa).alloc (Nat.le_refl _) o))
    go_region_held3 (fun w' => w'.cell? ⟨w.heap.size, 0, none⟩ = some (.int .i64 W) ∧ w'.cell? ⟨w.heap.size, 1, none⟩ = some (.int .i64 H) ∧ w'.cell? ⟨w.heap.size, 2, none⟩ = some (.slice GA G.length gc) ∧ w'.cell? ⟨w.heap.size, 3, none⟩ = some (.slice PA P.length pc) ∧ w'.cell? ⟨W0.heap.size, 0, none⟩ = some (.int .i64 s.id) ∧ w'.cell? ⟨W0.heap.size, 1, none⟩ = some (.int .i64 s.x) ∧ w'.cell? ⟨W0.heap.size, 2, none⟩ = some (.int .i64 s.y) ∧ w'.cell? ⟨W0.heap.size, 3, none⟩ = some (.int .i64 s.pw) ∧ w'.cell? ⟨W0.heap.size, 4, none⟩ = some (.int .i64 s.h) ∧ w'.cell? ⟨W0.heap.size, 5, none⟩ = some (.slice A' s.pat.length c') ∧ w'.cell? ⟨W0.heap.size, 6, none⟩ = some (.int .i64 s.band) ∧ w'.cell? ⟨W0.heap.size, 7, none⟩ = some (.int .i64 s.ch)) (first | exact K0 | exact kA _ (by assumption) | exact kB _ _ (by assumption))
      (first
        | (go_at_call 94; ((with_reducible refine (coveredBy_ok W H GA PA gc pc G P s A' c' _).mono ?_); rintro e wa ⟨rfl, hba, hsa, za, zb⟩; dsimp only [fv]))
        | (go_at_call 93; ((with_reducible refine (cells_ok W H GA PA gc pc G.length P.length _ 1 1 _).mono ?_); rintro e wc ⟨rfl, hbc, hsc, zc, zd⟩; have hbC := after_ (hba.alloc hba.size _) hbc; dsimp only [cvv])))
    all_goals
      clear K0 kA kB
      have hsa2 : wa.heap.size = X.heap.size + 2 := hsa
      have zcl : Box wc wa.heap.size #[fv X.heap.size (X.heap.size + 1)] 137 := (Box.new wa #[fv X.heap.size (X.heap.size + 1)] 137).below hbc
      have za2 : Box wc X.heap.size #[.int .i64 W, .int .i64 H, .slice GA G.length gc, .slice PA P.length pc] 24 := (za.alloc _).below hbc
      have zb2 : Box wc (X.heap.size + 1) (stc s A' c') 40 := (zb.alloc _).below hbc
      simp only [World.size_alloc, hsa2] at zc zd zcl ⊢
      have BWc := after_ BD hbC
      have Bc := after_ hB0 BWc
      have xtc := xt.below BWc
      have xmc := xm.below BWc
      have hownc := hown.kept (below_grown BWc) (by simp)
      have hMc := (hM.below BWc).more BWc.size
      have hltc := hownc.lt
      clear hsa hsa2 hbc hsc za zb y0 y1 hba
      go_wp2_with fail
      refine wp_range (gf := 122) rfl (enters_of Tryz.func122 (by kernel_rfl) rfl) (cellsL_seq (W := W) (H := H) (GA := GA) (PA := PA) (gc := gc) (pc := pc) (G := G) (P := P) [⟨X.heap.size, X.heap.size + 1, s, A', c'⟩] (X.heap.size + 2 + 1) (X.heap.size + 2 + 1 + 1) (some ⟨X.heap.size + 2, 0, none⟩) 1 (by simp) HTV.out (by simpa using HKO.out)) (fun _ => rfl)
        (fun pre W' => ∃ (n' : Nat) (D' : DataW Unit), n' ≤ n + pre.length ∧ W'.ownsMap Tryz.prog 3 (plainElem (H := Unit) Tryz.prog 3) w1.heap.size n' D' ∧ Hid (KeysAre D' (M.reachL W H G ((es.take k).map (·.s)) ++ pre)) ∧ Below w.heap.size w W' ∧ Box W' w.heap.size #[.int .i64 W, .int .i64 H, .slice GA G.length gc, .slice PA P.length pc] 24 ∧ Box W' (w1.heap.size + 1) #[.map (some w1.heap.size)] 169 ∧ Box W' X.heap.size #[.int .i64 W, .int .i64 H, .slice GA G.length gc, .slice PA P.length pc] 24 ∧ Box W' (X.heap.size + 1) (stc s A' c') 40 ∧ Box W' (X.heap.size + 2) #[fv X.heap.size (X.heap.size + 1)] 137 ∧ Box W' (X.heap.size + 2 + 1) #[.int .i64 W, .int .i64 H, .slice GA G.length gc, .slice PA P.length pc] 24 ∧ Box W' (X.heap.size + 2 + 1 + 1) #[.slice (some ⟨X.heap.size + 2, 0, none⟩) 1 1] 158 ∧ Marks w.heap.size wc.heap.size ds W')
        (fun _ _ _ => False) ?hI (fun _ _ _ _ _ h => h.elim) ?hK ⟨n, D, by simp, hownc, Lib.hid (by rw [List.append_nil]; exact HK.out), Bc, xtc, xmc, za2, zb2, zcl, zc, zd, hMc⟩ ?round ?done (fun _ _ _ h => h.elim)
      case hI =>
        exact fun pre W' W'' row ⟨n', D', g1, g2, g3, g4, g5, g6, g7, g8, g9, g10, g11, g12⟩ hg' hr => ⟨n', D', g1, g2.kept hg' (fun e => by have := (hr _ e.symm).1; omega), g3, below_own g4 Bc.size g4.size hg' hr, g5.own hg' hr, g6.own hg' hr, g7.own hg' hr, g8.own hg' hr, g9.own hg' hr, g10.own hg' hr, g11.own hg' hr, g12.own (Nat.le_refl _) hg' hr⟩
      case hK =>
        refine fun pre W' ⟨n', D', g1, g2, g3, g4, g5, g6, g7, g8, g9, g10, g11, g12⟩ => ⟨fun e he => ?_, g10, g11, Sl.of_box g9 rfl⟩
        obtain rfl := List.mem_singleton.1 he
        exact ⟨g7, g8, (hg.below g4).more g4.size, (hp.below g4).more g4.size, (hSk.below g4).more g4.size, ht.kept g4⟩
      case round =>
        intro r' pre x post W' hLL hl' hd' hi'
        gi_wp2
        refine ⟨hl', hd', hi', fun _ => True, fun _ _ _ _ _ _ _ => trivial, trivial, ?_⟩
        clear hl' hd' hi'
        rintro r'' W2 hl' hd' ⟨n', D', g1, g2, g3, g4, g5, g6, g7, g8, g9, g10, g11, g12⟩ -
        have hxm : x ∈ M.cellsTo W G [⟨X.heap.size, X.heap.size + 1, s, A', c'⟩] (W * H).toNat := by rw [hLL]; simp
        have hlen := M.cellsTo_len W G [⟨X.heap.size, X.heap.size + 1, s, A', c'⟩] (W * H).toNat
        rw [hLL] at hlen
        simp only [List.length_append, List.length_cons] at hlen
        have hx := M.cellsTo_in x hxm
        have hwf : (Lit.int .i64 x).wf = true := by simp [Lit.wf, IntKind.min, IntKind.max, IntKind.signed, IntKind.bits]; omega
        have hkey := Maps.keyOf_int_mk (P := Tryz.prog) Tryz.underlying3 hwf
        have cm := g6.c1
        clear hLL hxm
        gi_wp2_with (first
          | (gi_at_lookup; refine wpListIn_lookup_own_int _ rfl _ _ 169 rfl 3 3 .i64 (Maps.int_keyed Tryz.underlying3) Tryz.underlying169 Tryz.underlying3 (Tryz.zeroValue3 _) w1.heap.size n' _ rfl g2 _ _ rfl hkey ?_; intro c hat hwc)
          | (gi_at_mapUpdate; refine wpListIn_mapUpdate_own _ rfl _ _ _ 169 rfl 3 3 (Maps.int_keyed Tryz.underlying3) Tryz.underlying169 _ w1.heap.size n' _ rfl g2 (by unfold maxLen; omega) _ _ _ rfl rfl hkey _ [] (plainElem_int Tryz.underlying3 (wrap64_wf _)) ?_; intro w6 hown6 hg6))
        have g2' := g2
        obtain ⟨esm, ck, hh, -⟩ := g2'
        have hr0 : ∀ r, some w1.heap.size = some r → 0 ≤ r ∧ ∃ o : Obj, W2.heap[r]? = some o ∧ o.isCells = false := fun r e => by cases e; exact ⟨Nat.zero_le _, _, hh, rfl⟩
        exact ⟨hl'.grown hg6 (fun e => by have := Option.some.inj e; omega), hd'.grown hg6 (fun e => by have := Option.some.inj e; omega), n' + 1, _, by simp only [List.length_append, List.length_cons, List.length_nil]; omega, hown6, Lib.hid (by rw [← List.append_assoc]; exact g3.out.put x _), g4.grown hg6 g4.size (fun k e => by have := Option.some.inj e; omega), g5.own hg6 hr0, g6.own hg6 hr0, g7.own hg6 hr0, g8.own hg6 hr0, g9.own hg6 hr0, g10.own hg6 hr0, g11.own hg6 hr0, g12.map hh (by simp) hg6⟩
      case done =>
        rintro W' ⟨n', D', g1, g2, g3, g4, g5, g6, g7, g8, g9, g10, g11, g12⟩ hD
        have hlen := M.cellsTo_len W G [⟨X.heap.size, X.heap.size + 1, s, A', c'⟩] (W * H).toNat
        have HKK : Hid (KeysAre D' (M.reachL W H G ((es.take (k + 1)).map (·.s)))) := Lib.hid (by rw [HTK.out, ← M.cellsTo_area W H G X.heap.size (X.heap.size + 1) s A' c']; exact g3.out)
        have hn' : n' ≤ 4096 * (k + 1) := by omega
        have hM2 := (g12.cons Bc.size (Nat.le_refl _) hD).more hD.lt
        clear hlen
        go_wp2_with fail
        exact ⟨rfl, es.length - (k + 1), by omega, k + 1, n', D', _, _, _, _, _, _, _, _, _, _, _, rfl, rfl, hlt, hn', g4, g5, g6, g2, HKK, hM2⟩
  · obtain rfl : k = es.length := by omega
    have HK2 : Hid (KeysAre D (M.reachL W H G (es.map (·.s)))) := Lib.hid (by have := HK.out; rwa [List.take_length] at this)
    clear HK
    have y0 : Box W0.drew w.heap.size #[.int .i64 W, .int .i64 H, .slice GA G.length gc, .slice PA P.length pc] 24 := xt
    have y1 : Box W0.drew (w1.heap.size + 1) #[.map (some w1.heap.size)] 169 := xm
    have hownd : W0.drew.ownsMap Tryz.prog 3 (plainElem (H := Unit) Tryz.prog 3) w1.heap.size n D := hown
    have BDr : Below W0.heap.size W0 W0.drew := (Below.refl _ _).drew
    have HIN : Hid (∀ x ∈ M.reachL W H G (es.map (·.s)), 0 ≤ x ∧ x < W * H) := Lib.hid (fun x hx => by
      obtain ⟨s, _, h⟩ := List.mem_flatMap.1 hx
      exact M.area_in x h)
    have K0 := held13 y0 y1
    have kA : ∀ wa, Below W0.drew.heap.size W0.drew wa → _ := fun wa hba => held13 (y0.below hba) (y1.below hba)
    have kB : ∀ wa o, Below W0.drew.heap.size W0.drew wa → _ := fun wa o hba => held13 ((y0.below hba).below ((Below.refl wa.heap.size wa).alloc (Nat.le_refl _) o)) ((y1.below hba).below ((Below.refl wa.heap.size wa).alloc (Nat.le_refl _) o))
    go_wp2_with fail
    go_region_held3 (fun w' => w'.cell? ⟨w.heap.size, 0, none⟩ = some (.int .i64 W) ∧ w'.cell? ⟨w.heap.size, 1, none⟩ = some (.int .i64 H) ∧ w'.cell? ⟨w.heap.size, 2, none⟩ = some (.slice GA G.length gc) ∧ w'.cell? ⟨w.heap.size, 3, none⟩ = some (.slice PA P.length pc) ∧ w'.cell? ⟨w1.heap.size + 1, 0, none⟩ = some (.map (some w1.heap.size))) (first | exact K0 | exact kA _ (by assumption) | exact kB _ _ (by assumption))
      (first
        | (go_at_call 134; ((with_reducible refine (keysI_ok2 _ _).mono ?_); rintro e wa ⟨rfl, hba, hcell⟩; have howna := hownd.kept (below_grown hba) (by simp)))
        | (go_at_call 52; ((refine (sortedK_ok w1.heap.size n D _ (M.reachL W H G (es.map (·.s))) _ howna _ hcell HK2.out (by omega)).mono ?_); rintro e wb ⟨A9, c9, ss, rfl, hS9, hmem, hlen9, hb9⟩; have hbB := after_ hba hb9))
        | (go_at_call 49; ((with_reducible refine (tTotal_ok W H GA PA gc pc G P A9 c9 ss _ ((hg.below (after_ hB0 (after_ BDr hbB))).more (after_ hB0 (after_ BDr hbB)).size) ((hp.below (after_ hB0 (after_ BDr hbB))).more (after_ hB0 (after_ BDr hbB)).size) hS9 HTV.out (by omega) (fun x hx => HIN.out x ((hmem x).1 hx))).mono ?_); rintro e wd ⟨rfl, hbd⟩; have hbD := after_ hbB hbd)))
    all_goals
      have HT : Hid (M.total P ss = rr) := Lib.hid ((M.total_same (n := (W * H).toNat) (fun x hx => by have := HIN.out x ((hmem x).1 hx); omega) hmem).trans HRR.out)
      have Bd := after_ hB0 (after_ BDr hbD)
      have hMd := (hM.below BDr).below hbD
      rw [HT.out]
      go_wp2_with fail
      exact leaves_marks (B := w.heap.size) _ _ hMd (fun W' hs => ⟨.tuple #[.int .i64 rr, .int .i64 0], by simp [results, Tryz.results107, go_sem], rfl, Bd.trans hs.below⟩)
end Go.Proofs.YtciolgmljpamlaaGreatDoor
end

section
namespace Go.Proofs.YtciolgmljpamlaaGreatDoor
open Go Go.RowKit
set_option maxRecDepth 100000
set_option maxHeartbeats 4000000 in
theorem reach_no (W H : Int) (GA PA : Option Addr) (gc pc : Nat) (G P : List Int) (LA : Option Addr) (lc : Nat) (es : List SE) (w : World) (hg : Sl 1 icell w w.heap.size GA G) (hp : Sl 1 icell w w.heap.size PA P) (hL : Sl 8 secell w w.heap.size LA es) (hP : Pats w es)
    (hl : es.length ≤ 1000) (hgl : G.length ≤ 9223372036854775807) (hpl : P.length ≤ 9223372036854775807) (hpe : ∀ e ∈ es, e.s.pat.length ≤ 1000) (hno : M.chk W H G P (es.map (·.s)) = 2) :
    Calls Tryz.prog 107 #[tv W H GA PA G.length gc P.length pc, .slice LA es.length lc] w fun e w' => e = .returned (.tuple #[.int .i64 0, .int .i64 2]) ∧ Below w.heap.size w w' := by
  obtain ⟨V, HW, x0, hB, -⟩ := boxes1 w #[.int .i64 W, .int .i64 H, .slice GA G.length gc, .slice PA P.length pc] 24
  obtain ⟨c0, c1, c2, c3⟩ := x0.c4
  have hV := HW.out
  have k := check_any W H GA PA gc pc G P LA lc es V ((hg.below hB).more hB.size) ((hp.below hB).more hB.size) ((hL.below hB).more hB.size) (hP.below hB) hgl hpl (by omega) hpe
  rw [hno] at k
  clear hno
  go_enter Tryz.func107, Tryz.ntmps107
  go_wp2_with fail
  clear hV
  refine k.mono ?_
  rintro e w1 ⟨rfl, hb1⟩
  go_wp2_with fail
  go_ret2
  exact ⟨rfl, after_ hB hb1⟩
def M.over (W H : Int) (G : List Int) (s t : St) : List Int := ((List.range (W * H).toNat).filter fun (i : Nat) => M.cov W G s (M.cx W i) (M.cy W i) && M.cov W G t (M.cx W i) (M.cy W i)).map fun (i : Nat) => (i : Int)
end Go.Proofs.YtciolgmljpamlaaGreatDoor
end
