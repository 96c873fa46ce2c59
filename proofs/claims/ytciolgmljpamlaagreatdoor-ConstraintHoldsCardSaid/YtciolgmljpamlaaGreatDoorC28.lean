/- A bundle of texts: ClosL. -/
import Derived.Test.YtciolgmljpamlaaGreatDoorC21
import Derived.Test.YtciolgmljpamlaaGreatDoorC24
section
namespace Go.Proofs.YtciolgmljpamlaaGreatDoor
open Go Go.RowKit
set_option maxRecDepth 100000
structure CE where
  bt : Nat
  bs : Nat
  s : St
  A : Option Addr
  c : Nat
def M.allC (W : Int) (G : List Int) (cs : List CE) (cx cy : Int) : Bool := cs.all fun e => M.cov W G e.s cx cy
def Capts (w : World) (W H : Int) (GA PA : Option Addr) (gc pc : Nat) (G P : List Int) (cs : List CE) : Prop := ∀ e ∈ cs, Capt w e.bt e.bs W H GA PA gc pc G P e.s e.A e.c
theorem Capts.below {w w' : World} {W H : Int} {GA PA : Option Addr} {gc pc : Nat} {G P : List Int} {cs : List CE} (h : Capts w W H GA PA gc pc G P cs) (hb : Below w.heap.size w w') : Capts w' W H GA PA gc pc G P cs := fun e he => (h e he).below hb
def IdxPost (r : Bool) (w : World) (e : Ending) (w' : World) : Prop := ((r = true ∧ e = .returned (.int .i64 (-1))) ∨ (r = false ∧ ∃ k : Nat, k ≤ 1000 ∧ e = .returned (.int .i64 k))) ∧ Below w.heap.size w w'
set_option maxHeartbeats 8000000 in
theorem indexFuncL_ok {w : World} {W H : Int} {GA PA : Option Addr} {gc pc : Nat} {G P : List Int} (cs : List CE) (h : Capts w W H GA PA gc pc G P cs) (bc : Nat) (cx cy : Int) (hc : Box w bc #[.int .i64 cx, .int .i64 cy] 113) (hok : ∀ e ∈ cs, M.okF W H G P e.s cx cy = true) (ca : Option Addr) (cc : Nat) (hca : Sl 1 vcell w w.heap.size ca (cs.map fun e => fv e.bt e.bs)) (hl : cs.length ≤ 1000) :
    Calls Tryz.prog 156 #[.slice ca cs.length cc, rv bc] w (IdxPost (M.allC W G cs cx cy) w) := by
  obtain ⟨r, hr⟩ : ∃ r, M.allC W G cs cx cy = r := ⟨_, rfl⟩
  have HNO : Hid (∀ k (hk : k < cs.length), M.cov W G cs[k].s cx cy = false → r = false) := Lib.hid (fun k hk h => by
    rw [← hr]; unfold M.allC
    rw [List.all_eq_false]
    exact ⟨cs[k], List.getElem_mem hk, by rw [h]; decide⟩)
  have HYES : Hid ((∀ j (hj : j < cs.length), M.cov W G cs[j].s cx cy = true) → r = true) := Lib.hid (fun h => by
    rw [← hr]; unfold M.allC
    rw [List.all_eq_true]
    intro e he
    obtain ⟨j, hj, rfl⟩ := List.getElem_of_mem he
    exact h j hj)
  have HOK := Lib.hid hok
  rw [hr]
  clear hr hok
  unfold rv
  go_enter Tryz.func156, Tryz.ntmps156
  go_wp2_with fail
  go_loopw [5, 8] (fun _ i wr => ∃ k : Nat, k ≤ cs.length ∧ i = .int .i64 k ∧ Below w.heap.size w wr ∧ Hid (∀ j (hj : j < cs.length), j < k → M.cov W G cs[j].s cx cy = true)) (fun _ i _ => cs.length - (intOf i).toNat)
  case atStart => exact ⟨0, Nat.zero_le _, rfl, Below.refl _ _, Lib.hid (fun j _ h => absurd h (by omega))⟩
  case round =>
    obtain ⟨k, hk, rfl, hB, HN⟩ := hrel
    by_cases hlt : k < cs.length
    · have kk := refuses_ok ((h cs[k] (List.getElem_mem hlt)).below hB) bc cx cy (hc.below hB) (HOK.out _ (List.getElem_mem hlt))
      obtain ⟨ad, rfl, hab, a0⟩ := ((hca.below hB).more hB.size).one_at (k := k) (by simpa using hlt)
      simp only [vcell, List.getElem_map] at a0
      have HK1 := Lib.hid (HNO.out k hlt)
      have HN2 : Hid (M.cov W G cs[k].s cx cy = true → ∀ j (hj : j < cs.length), j < k + 1 → M.cov W G cs[j].s cx cy = true) := Lib.hid (fun h j h1 h3 => by
        by_cases e : j = k
        · subst e; exact h
        · exact HN.out j h1 (by omega))
      generalize cs[k] = ek at *
      obtain ⟨bt, bs, s, A, c⟩ := ek
      simp only at a0 kk HK1 HN2
      cases hcv : M.cov W G s cx cy with
      | false =>
        have HF := Lib.hid (HK1.out hcv)
        rw [hcv] at kk
        go_wp2_with fail
        refine kk.mono ?_
        rintro e w1 ⟨rfl, hb1⟩
        go_wp2_with fail
        go_ret
        exact ⟨.inr ⟨HF.out, k, by omega, rfl⟩, after_ hB hb1⟩
      | true =>
        have HN3 := Lib.hid (HN2.out hcv)
        rw [hcv] at kk
        go_wp2_with fail
        refine kk.mono ?_
        rintro e w1 ⟨rfl, hb1⟩
        go_wp2_with fail
        go_roundw
        case rel => exact ⟨k + 1, hlt, by go_num, after_ hB hb1, HN3⟩
        case measure => simp [intOf]; omega
    · have HF := Lib.hid (HYES.out (fun j hj => HN.out j hj (by omega)))
      go_wp2_with fail
      go_ret
      exact ⟨.inl ⟨HF.out, rfl⟩, hB⟩
set_option maxHeartbeats 4000000 in
theorem containsFuncL_ok {w : World} {W H : Int} {GA PA : Option Addr} {gc pc : Nat} {G P : List Int} (cs : List CE) (h : Capts w W H GA PA gc pc G P cs) (bc : Nat) (cx cy : Int) (hc : Box w bc #[.int .i64 cx, .int .i64 cy] 113) (hok : ∀ e ∈ cs, M.okF W H G P e.s cx cy = true) (ca : Option Addr) (cc : Nat) (hca : Sl 1 vcell w w.heap.size ca (cs.map fun e => fv e.bt e.bs)) (hl : cs.length ≤ 1000) :
    Calls Tryz.prog 124 #[.slice ca cs.length cc, rv bc] w fun e w' => e = .returned (.bool (!M.allC W G cs cx cy)) ∧ Below w.heap.size w w' := by
  have k := indexFuncL_ok cs h bc cx cy hc hok ca cc hca hl
  generalize M.allC W G cs cx cy = r at *
  clear h hc hok hca
  go_enter Tryz.func124, Tryz.ntmps124
  go_wp2_with fail
  refine k.mono ?_
  rintro e w1 ⟨(⟨rfl, rfl⟩ | ⟨rfl, j, hj, rfl⟩), hb1⟩
  · go_wp2_with fail
    go_ret
    exact ⟨rfl, hb1⟩
  · have hd : decide ((0 : Int) ≤ (j : Int)) = true := decide_eq_true (by omega)
    go_wp2_with fail
    go_ret
    exact ⟨rfl, hb1⟩
def M.cellsTo (W : Int) (G : List Int) (cs : List CE) (n : Nat) : List Int := ((List.range n).filter fun (i : Nat) => M.allC W G cs (M.cx W i) (M.cy W i)).map fun (i : Nat) => (i : Int)
theorem M.cellsTo_succ (W : Int) (G : List Int) (cs : List CE) (n : Nat) : M.cellsTo W G cs (n + 1) = M.cellsTo W G cs n ++ if M.allC W G cs (M.cx W n) (M.cy W n) then [(n : Int)] else [] := by
  unfold M.cellsTo
  rw [List.range_succ, List.filter_append, List.map_append]
  congr 1
  by_cases h : M.allC W G cs (M.cx W n) (M.cy W n) = true
  · simp [h]
  · simp [h]
theorem M.cellsTo_len (W : Int) (G : List Int) (cs : List CE) (n : Nat) : (M.cellsTo W G cs n).length ≤ n := by
  unfold M.cellsTo
  rw [List.length_map]
  have := List.length_filter_le (fun i => M.allC W G cs (M.cx W i) (M.cy W i)) (List.range n)
  simpa using this
theorem M.cellsTo_pre {W : Int} {G : List Int} {cs : List CE} : ∀ {m n : Nat}, m ≤ n → ∃ post, M.cellsTo W G cs n = M.cellsTo W G cs m ++ post
  | m, 0, h => ⟨[], by rw [show m = 0 by omega]; simp⟩
  | m, n + 1, h => by
    by_cases e : m = n + 1
    · exact ⟨[], by rw [e]; simp⟩
    · obtain ⟨post, hp⟩ := M.cellsTo_pre (W := W) (G := G) (cs := cs) (m := m) (n := n) (by omega)
      exact ⟨post ++ _, by rw [M.cellsTo_succ, hp, List.append_assoc]⟩
structure CellsK (W H : Int) (GA PA : Option Addr) (gc pc : Nat) (G P : List Int) (cs : List CE) (b1 b2 : Nat) (ca : Option Addr) (cc : Nat) (w : World) : Prop where
  capt : Capts w W H GA PA gc pc G P cs
  t : Box w b1 #[.int .i64 W, .int .i64 H, .slice GA G.length gc, .slice PA P.length pc] 24
  c : Box w b2 #[.slice ca cs.length cc] 158
  s : Sl 1 vcell w w.heap.size ca (cs.map fun e => fv e.bt e.bs)
theorem CellsK.below {W H : Int} {GA PA : Option Addr} {gc pc : Nat} {G P : List Int} {cs : List CE} {b1 b2 : Nat} {ca : Option Addr} {cc : Nat} {w w' : World} (h : CellsK W H GA PA gc pc G P cs b1 b2 ca cc w) (hb : Below w.heap.size w w') : CellsK W H GA PA gc pc G P cs b1 b2 ca cc w' :=
  ⟨h.capt.below hb, h.t.below hb, h.c.below hb, (h.s.below hb).more hb.size⟩
set_option maxHeartbeats 16000000 in
theorem cellsL_seq {W H : Int} {GA PA : Option Addr} {gc pc : Nat} {G P : List Int} (cs : List CE) (b1 b2 : Nat) (ca : Option Addr) (cc : Nat) (hl : cs.length ≤ 1000) (htv : M.tvalid W H G P = true) (hok : ∀ e ∈ cs, M.okS W H G P e.s = true) :
    SeqP Tryz.prog 122 #[.pointer (some ⟨b1, 0, none⟩), .pointer (some ⟨b2, 0, none⟩)] (fun x : Int => #[.int .i64 x]) (M.cellsTo W G cs (W * H).toNat) (CellsK W H GA PA gc pc G P cs b1 b2 ca cc) := by
  intro l J Jx V hJ hJx hJb hY h0
  refine callsIn_wide.2 ?_
  obtain ⟨r1, r2, -⟩ := M.tvalid_iff.1 htv
  obtain ⟨w1, w2⟩ := M.wh_le r1 r2
  obtain ⟨n, hn⟩ : ∃ n : Nat, W * H = n := ⟨(W * H).toNat, by omega⟩
  have HN := Lib.hid hn
  have HOK := Lib.hid hok
  clear hok htv hn
  have hn4 : n ≤ 4096 := by have := HN.out; omega
  have HNT : Hid ((W * H).toNat = n) := Lib.hid (by have := HN.out; omega)
  rw [HNT.out] at hY
  have hmul : W * H = (n : Int) := HN.out
  obtain ⟨c0, c1, c2, c3⟩ := (hJb _ _ h0).t.c4
  have hmf := hmfA
  rw [HNT.out]
  obtain ⟨LL, HLL⟩ : ∃ LL, Hid (M.cellsTo W G cs n = LL) := ⟨_, Lib.hid rfl⟩
  rw [HLL.out] at hY ⊢
  go_enter Tryz.func122, Tryz.ntmps122
  go_wp2_with fail
  clear c0 c1 c2 c3
  go_loopw [4, 5, 6, 12] (fun _ _ _ i wr => ∃ k : Nat, k ≤ n ∧ i = .int .i64 k ∧ J (M.cellsTo W G cs k) wr) (fun _ _ _ i _ => n - (intOf i).toNat)
  case atStart => exact ⟨0, Nat.zero_le _, rfl, h0⟩
  case round =>
    obtain ⟨k, hk, rfl, hJk⟩ := hrel
    by_cases hlt : k < n
    · have hK := hJb _ _ hJk
      have x1 := hK.t
      obtain ⟨c0, c1, c2, c3⟩ := x1.c4
      obtain ⟨hin1, hin2⟩ := M.cell_in (W := W) (H := H) (i := k) (by omega) (by rw [hmul]; omega)
      have l1 := x1.lt
      have D0 : wr.drew.cell? ⟨b1, 0, none⟩ = some (.int .i64 W) := c0
      have D1 : ∀ o, (wr.alloc o).drew.cell? ⟨b1, 0, none⟩ = some (.int .i64 W) := fun o => ((((Below.refl wr.heap.size wr).alloc (Nat.le_refl _) o).drew).cell (p := ⟨b1, 0, none⟩) l1).trans c0
      have hW0 : W ≠ 0 := by omega
      clear c1 c2 c3
      refine (wpIn_wide (n := 9)).1 ?_
      gi_wp2_with fail
      refine wpIn_wide.2 ?_
      go_region_held3 (fun w' => w'.cell? ⟨b1, 0, none⟩ = some (.int .i64 W)) (first | with_reducible exact D0 | with_reducible exact c0 | exact D1 _) (fail)
      all_goals
        have e1 : (k : Int).tmod W = M.cx W k := by unfold M.cx; exact Int.tmod_eq_emod_of_nonneg (by omega)
        have e2 : IntKind.i64.wrap ((k : Int) / W) = M.cy W k := by
          have h3 : M.cy W k = (k : Int) / W := rfl
          rw [← h3]
          have : M.cy W k ≤ 64 := by omega
          generalize M.cy W k = z at *
          unfold IntKind.wrap
          simp [IntKind.bits, IntKind.signed]
          omega
        rw [e1, e2]
        obtain ⟨U, HU, u0, hBU, -⟩ := boxes1 wr #[.int .i64 (M.cx W k), .int .i64 (M.cy W k)] 113
        rw [HU.out]
        have hBD : Below wr.heap.size wr U.drew := hBU.drew
        have u1 : Box U.drew wr.heap.size #[.int .i64 (M.cx W k), .int .i64 (M.cy W k)] 113 := u0
        have hK2 := hK.below hBD
        have kk := containsFuncL_ok cs hK2.capt wr.heap.size (M.cx W k) (M.cy W k) u1 (fun e he => M.okS_F (HOK.out e he) hin1.1 hin1.2 hin2.1 hin2.2) ca cc hK2.s hl
        have k2 := hK2.c.c1
        have hJ2 : J (M.cellsTo W G cs k) U.drew := hJ _ _ _ none hJk (below_grown hBD) (fun r e => by cases e)
        unfold rv at kk
        have hmf := hmfA
        gi_wp2_with fail
        refine ⟨trivial, (callsIn_wide.2 kk).mono ?_⟩
        rintro e w5 ⟨rfl, hb5⟩
        have hJ5 : J (M.cellsTo W G cs k) w5 := hJ _ _ _ none hJ2 (below_grown hb5) (fun r e => by cases e)
        cases hcv : M.allC W G cs (M.cx W k) (M.cy W k) with
        | false =>
          have HS2 : Hid (M.cellsTo W G cs (k + 1) = M.cellsTo W G cs k) := Lib.hid (by rw [M.cellsTo_succ, hcv]; simp)
          gi_wp2_with fail
          go_roundw
          case rel => exact ⟨k + 1, hlt, by go_num, by rw [HS2.out]; exact hJ5⟩
          case measure => simp [intOf]; omega
        | true =>
          have HS2 : Hid (M.cellsTo W G cs (k + 1) = M.cellsTo W G cs k ++ [(k : Int)]) := Lib.hid (by rw [M.cellsTo_succ, hcv]; simp)
          obtain ⟨post, HPO⟩ : ∃ post, Hid (LL = M.cellsTo W G cs k ++ (k : Int) :: post) := by
            obtain ⟨post, hp⟩ := M.cellsTo_pre (W := W) (G := G) (cs := cs) (m := k + 1) (n := n) (by omega)
            exact ⟨post, Lib.hid (by rw [← HLL.out, hp, HS2.out, List.append_assoc]; rfl)⟩
          obtain ⟨fn, tmps, assign, body, hy, hR⟩ := hY (M.cellsTo W G cs k) (k : Int) post w5 HPO.out hJ5
          clear hY
          gi_wp2_with fail
          refine hR.mono ?_
          rintro e W3 (⟨rfl, hJ3⟩ | ⟨rfl, hJ3⟩)
          · gi_wp2_with fail
            go_roundw
            case rel => exact ⟨k + 1, hlt, by go_num, by rw [HS2.out]; exact hJ3⟩
            case measure => simp [intOf]; omega
          · gi_wp2_with fail
            exact bodyPost_ret (results_none rfl _ _ _) rfl ⟨⟨_, rfl⟩, .inr ⟨_, hJ3⟩⟩
    · obtain rfl : k = n := by omega
      go_wp2_with fail
      go_end0
      exact ⟨⟨_, rfl⟩, .inl (by rw [← HLL.out]; exact hJk)⟩
end Go.Proofs.YtciolgmljpamlaaGreatDoor
end
