/- A bundle of texts: Or3. -/
import Derived.Test.YtpkepgcmifdpfaaGreatDoorR32
import Derived.Test.YtpkepgcmifdpfaaGreatDoorR34
import Derived.Test.YtpkepgcmifdpfaaGreatDoorR31
section
namespace Go.Proofs.YtpkepgcmifdpfaaGreatDoor
open Go Go.RowKit Go.Maps
set_option maxRecDepth 100000
theorem err_zero {ps : List P5} {l : List Mv} {er : Int} (h : M.errIs ps l er) (h1 : M.mvsOk l) (h2 : ps.length ≤ 20000) : er = 0 := by
  rcases h with ⟨-, -, h3⟩ | ⟨-, h3, -⟩ | ⟨h3, -⟩
  · exact h3
  · omega
  · exact absurd h1 h3
theorem MD.groups {w : World} {b : Nat} {a : TrA} {t : Tr} (h : MD w b a t) (ht : Tab64 w) :
    Calls Tryz.prog 72 #[.slice a.P t.ps.length a.p, .slice a.L t.l.length a.l] w fun e w' => (∃ A c ls, e = .returned (.tuple #[.slice A ls.length c, .int .i64 0]) ∧ LO w' w.heap.size (.slice A ls.length c) ls ∧ ls.map (·.xs) = M.grps t.ps t.l) ∧ Below w.heap.size w w' := by
  refine (groups_ok a.P a.p t.ps.length t.ps a.L a.l t.l w ht rfl h.tr.P h.tr.L (by have := h.tr.hL; omega) h.tr.hw).mono ?_
  rintro e w' ⟨⟨er, her, hc⟩, hb⟩
  have h0 := err_zero her h.good.1.1 h.good.2.1
  rcases hc with ⟨h1, -⟩ | ⟨-, A, c, ls, rfl, h3, h4⟩
  · exact absurd h0 h1
  · exact ⟨⟨A, c, ls, rfl, h3, h4⟩, hb⟩
theorem MD.edges {w : World} {b : Nat} {a : TrA} {t : Tr} (h : MD w b a t) (ht : Tab64 w) :
    Calls Tryz.prog 73 #[.slice a.P t.ps.length a.p, .slice a.L t.l.length a.l] w fun e w' => (∃ eb A c, e = .returned (.func (.func 104) #[] #[.pointer (some ⟨eb, 0, none⟩)]) ∧ w.heap.size ≤ eb ∧ Box w' eb #[.slice A (M.edg t.ps t.l).length c] 178 ∧ w'.ownsRow w.heap.size 152 2 (.slice A (M.edg t.ps t.l).length c) (M.edg t.ps t.l).length (flat 2 e2cell (M.edg t.ps t.l))) ∧ Below w.heap.size w w' := by
  refine (edges_ok a.P a.p t.ps.length t.ps a.L a.l t.l w ht rfl h.tr.P h.tr.L (by have := h.tr.hL; omega) h.tr.hw).mono ?_
  rintro e w' ⟨⟨b, A, c, es, er, rfl, h1, h2, h3, her, -, h5⟩, hb⟩
  obtain rfl := h5 (err_zero her h.good.1.1 h.good.2.1)
  exact ⟨⟨b, A, c, rfl, h1, h2, h3⟩, hb⟩
def M.noRow : SLc := ⟨none, 0, []⟩
set_option maxHeartbeats 64000000 in
theorem order_ok (b : Nat) (a : TrA) (t : Tr) (w : World) (ht : Tab64 w) (h : MD w b a t) :
    Calls Tryz.prog 48 #[.pointer (some ⟨b, 0, none⟩)] w fun e w' => ((¬ (∀ g ∈ M.grps t.ps t.l, M.small t g = true) ∧ e = .returned (.tuple #[.agg #[.slice none 0 0, .slice none 0 0], .int .i64 490])) ∨ ((∀ g ∈ M.grps t.ps t.l, M.small t g = true) ∧ ∃ (GA : Option Addr) (gc : Nat) (gs : List SLc) (bW : Nat) (wl : List SLc), e = .returned (.tuple #[.agg #[.slice GA gs.length gc, .slice (some ⟨bW, 0, none⟩) wl.length wl.length], .int .i64 0]) ∧ LO w' w.heap.size (.slice GA gs.length gc) gs ∧ gs.map (·.xs) = M.grps t.ps t.l ∧ LL w' (some ⟨bW, 0, none⟩) wl ∧ wl.map (·.xs) = M.wts (M.grps t.ps t.l) (M.edg t.ps t.l))) ∧ Below w.heap.size w w' := by
  obtain ⟨il, hil, hzl0, hzl1, hzl2⟩ := info_parts slInfo
  have Hil := Lib.hid hil; have Hzl0 := Lib.hid hzl0; have Hzl1 := Lib.hid hzl1; have Hzl2 := Lib.hid hzl2
  clear hil hzl0 hzl1 hzl2
  have hok := h.good.1.1
  have HOK := Lib.hid hok
  obtain ⟨V, HW, x2, hB, -⟩ := boxes1 w #[.slice none 0 0, .slice none 0 0] 90
  have HVL : Hid (w.heap.size < V.drew.heap.size) := Lib.hid x2.lt
  have hm := h.next hB
  have tv := ht.kept hB
  clear h ht hok
  obtain ⟨bv, nv, bs, ns, Dv, Ds, xb, -⟩ := hm.ex
  have c0 := xb.cell 0 rfl
  have c1 := xb.cell 1 rfl
  have lb := xb.lt
  have hV := HW.out
  refine calls_marks Tryz.func48 rfl ?_
  simp only [Tryz.ntmps48, List.size_toArray, List.length_cons, List.length_nil, Nat.reduceAdd, Nat.reduceSub, Array.replicate_succ, Array.replicate_zero, List.push_toArray, List.append_toArray, List.nil_append, List.cons_append]
  go_wp2_with fail
  clear hV
  have E0 : V.drew.cell? ⟨b, 0, none⟩ = some (.slice a.P t.ps.length a.p) := c0
  have E1 : V.drew.cell? ⟨b, 1, none⟩ = some (.slice a.L t.l.length a.l) := c1
  have hd := hm.next (Below.refl V.heap.size V).drew
  refine wp_region_noPanic ?_
  refine wp_region_any (by kernel_rfl) ?_
  refine wpAny_of_L (S := (fun (_ : Array Bool) (w' : World) => w'.cell? ⟨b, 0, none⟩ = some (.slice a.P t.ps.length a.p) ∧ w'.cell? ⟨b, 1, none⟩ = some (.slice a.L t.l.length a.l))) _ _ _ _ ?_
  change wpAnyL Tryz.prog _ _ _ _ _ _ _ V.drew
  refine wpAnyL_take (i := 0) (q := 1) (v := .pointer (some ⟨b, 0, none⟩)) (fun w' => True) rfl (by kernel_rfl) (by kernel_rfl) (by kernel_rfl) (fun c a w h => h) rfl (by kernel_rfl) (by decide) (fun ls w => by simp) (fun ls w h1 h2 => trivial) rfl rfl (fun w h => by go_simp) ⟨E0, E1⟩ ?_
  try simp only [Act.put]
  refine wpAnyL_take (i := 1) (q := 2) (v := .pointer (some ⟨b, 0, none⟩)) (fun w' => True) rfl (by kernel_rfl) (by kernel_rfl) (by kernel_rfl) (fun c a w h => h) rfl (by kernel_rfl) (by decide) (fun ls w => by simp) (fun ls w h1 h2 => trivial) rfl rfl (fun w h => by go_simp) ⟨E0, E1⟩ ?_
  try simp only [Act.put]
  refine wpAnyL_take (i := 2) (q := 3) (v := .pointer (some ⟨b, 0, none⟩)) (fun w' => True) rfl (by kernel_rfl) (by kernel_rfl) (by kernel_rfl) (fun c a w h => h) rfl (by kernel_rfl) (by decide) (fun ls w => by simp) (fun ls w h1 h2 => trivial) rfl rfl (fun w h => by go_simp) ⟨E0, E1⟩ ?_
  try simp only [Act.put]
  refine wpAnyL_take (i := 3) (q := 4) (v := .pointer (some ⟨b, 0, none⟩)) (fun w' => True) rfl (by kernel_rfl) (by kernel_rfl) (by kernel_rfl) (fun c a w h => h) rfl (by kernel_rfl) (by decide) (fun ls w => by simp) (fun ls w h1 h2 => trivial) rfl rfl (fun w h => by go_simp) ⟨E0, E1⟩ ?_
  try simp only [Act.put]
  refine wpAnyL_take (i := 4) (q := 10) (v := .slice a.P t.ps.length a.p) (fun w' => w'.cell? ⟨b, 0, none⟩ = some (.slice a.P t.ps.length a.p)) rfl (by kernel_rfl) (by kernel_rfl) (by kernel_rfl) (fun c a w h => h) rfl (by kernel_rfl) (by decide) (fun ls w => by simp) (fun ls w h1 h2 => h2.1) rfl rfl (fun w h => by go_simp) ⟨E0, E1⟩ ?_
  try simp only [Act.put]
  refine wpAnyL_take (i := 5) (q := 6) (v := .pointer (some ⟨b, 0, none⟩)) (fun w' => True) rfl (by kernel_rfl) (by kernel_rfl) (by kernel_rfl) (fun c a w h => h) rfl (by kernel_rfl) (by decide) (fun ls w => by simp) (fun ls w h1 h2 => trivial) rfl rfl (fun w h => by go_simp) ⟨E0, E1⟩ ?_
  try simp only [Act.put]
  refine wpAnyL_take (i := 6) (q := 7) (v := .pointer (some ⟨b, 0, none⟩)) (fun w' => True) rfl (by kernel_rfl) (by kernel_rfl) (by kernel_rfl) (fun c a w h => h) rfl (by kernel_rfl) (by decide) (fun ls w => by simp) (fun ls w h1 h2 => trivial) rfl rfl (fun w h => by go_simp) ⟨E0, E1⟩ ?_
  try simp only [Act.put]
  refine wpAnyL_take (i := 7) (q := 8) (v := .pointer (some ⟨b, 0, none⟩)) (fun w' => True) rfl (by kernel_rfl) (by kernel_rfl) (by kernel_rfl) (fun c a w h => h) rfl (by kernel_rfl) (by decide) (fun ls w => by simp) (fun ls w h1 h2 => trivial) rfl rfl (fun w h => by go_simp) ⟨E0, E1⟩ ?_
  try simp only [Act.put]
  refine wpAnyL_take (i := 8) (q := 9) (v := .pointer (some ⟨b, 1, none⟩)) (fun w' => True) rfl (by kernel_rfl) (by kernel_rfl) (by kernel_rfl) (fun c a w h => h) rfl (by kernel_rfl) (by decide) (fun ls w => by simp) (fun ls w h1 h2 => trivial) rfl rfl (fun w h => by go_simp) ⟨E0, E1⟩ ?_
  try simp only [Act.put]
  refine wpAnyL_take (i := 9) (q := 10) (v := .slice a.L t.l.length a.l) (fun w' => w'.cell? ⟨b, 1, none⟩ = some (.slice a.L t.l.length a.l)) rfl (by kernel_rfl) (by kernel_rfl) (by kernel_rfl) (fun c a w h => h) rfl (by kernel_rfl) (by decide) (fun ls w => by simp) (fun ls w h1 h2 => h2.2) rfl rfl (fun w h => by go_simp) ⟨E0, E1⟩ ?_
  try simp only [Act.put]
  refine wpAnyL_one (i := 10) (by kernel_rfl) ?_
  refine wpOp_K (fun K hK => ?_)
  refine wpOp_one rfl rfl ?_
  go_simp
  refine (hd.groups tv).mono ?_
  rintro e w1 ⟨⟨GA, gc, gs, rfl, hLO, hgs⟩, hb1⟩
  have hbV : Below V.heap.size V w1 := below_undrew hb1
  have xb1 := xb.below hbV
  have F0 := xb1.cell 0 rfl
  have F1 := xb1.cell 1 rfl
  have S0 := And.intro F0 F1
  clear E0 E1 F0 F1 hd xb1
  refine hK _ _ ⟨S0, ?_⟩
  clear hK K
  try simp only [Act.put]
  refine wpAnyL_one (i := 11) (by kernel_rfl) ?_
  refine wpOp_K (fun K hK => ?_)
  refine wpOp_one rfl rfl ?_
  go_simp
  refine hK _ _ ⟨S0, ?_⟩
  clear hK K
  try simp only [Act.put]
  refine wpAnyL_take (i := 12) (q := 14) (v := .slice GA gs.length gc) (fun w' => True) rfl (by kernel_rfl) (by kernel_rfl) (by kernel_rfl) (fun c a w h => h) rfl (by kernel_rfl) (by decide) (fun ls w => by simp) (fun ls w h1 h2 => trivial) rfl rfl (fun w h => by go_simp) S0 ?_
  try simp only [Act.put]
  refine wpAnyL_take (i := 13) (q := 15) (v := .int .i64 0) (fun w' => True) rfl (by kernel_rfl) (by kernel_rfl) (by kernel_rfl) (fun c a w h => h) rfl (by kernel_rfl) (by decide) (fun ls w => by simp) (fun ls w h1 h2 => trivial) rfl rfl (fun w h => by go_simp) S0 ?_
  try simp only [Act.put]
  refine wpAnyL_one (i := 14) (by kernel_rfl) ?_
  refine wpOp_K (fun K hK => ?_)
  refine wpOp_one rfl rfl ?_
  go_simp
  refine hK _ _ ⟨S0, ?_⟩
  clear hK K
  try simp only [Act.put]
  refine wpAnyL_one (i := 15) (by kernel_rfl) ?_
  refine wpOp_K (fun K hK => ?_)
  refine wpOp_one rfl rfl ?_
  go_simp
  refine hK _ _ ⟨S0, ?_⟩
  clear hK K
  try simp only [Act.put]
  refine wpAnyL_done (by kernel_rfl) (NoPanic.normal ?_) _
  have hm1 := hm.next hbV
  have x1 := x2.below hbV
  have t1 := tv.kept hbV
  have B1 := after_ hB hbV
  clear hm tv x2 hB hb1 hbV S0 c0 c1 lb xb
  obtain ⟨n, hn⟩ : ∃ n, gs.length = n := ⟨_, rfl⟩
  have hnb : n ≤ 512 := by
    have h1 := M.grps_len_le (ps := t.ps) HOK.out
    rw [← hgs, List.length_map, hn] at h1
    have := HOK.out.1
    omega
  have HN := Lib.hid hn
  have HGS := Lib.hid hgs
  have HLO := Lib.hid hLO
  clear hgs hLO
  rw [hn]
  clear hn
  have hmm := @run_makeMap Tryz.prog
  go_wp2_with (at_make; refine wpList_make_full _ rfl _ _ 39 rfl w1.heap.size 29 il _ 1 Tryz.underlying39 Hil.out Hzl0.out Hzl1.out .i64 .i64 _ _ n rfl rfl rfl rfl (by rw [Hzl2.out]; omega) (by unfold maxLen; omega) (Nat.le_refl _) ?_; intro w4 hown4 hg4; have em := made_flat (cell := slcell) (size := 1) (x0 := M.noRow) (by decide) (Value.slice none 0 0).cells (by simp [Value.cells, slcell, M.noRow, List.range_succ]) n; rw [em] at hown4; clear em; obtain ⟨X, HX, xo, hbX, hsX⟩ := boxes1 w4 #[.slice none 0 0, .slice none 0 0] 90; have hX := HX.out; have HSX := Lib.hid hsX; clear hsX; have cc0 := xo.cell 0 rfl; have cc1 : (X.setCell ⟨w4.heap.size, 0, none⟩ (.slice GA n gc)).cell? ⟨w4.heap.size, 1, none⟩ = some (.slice none 0 0) := (xo.set 0 _).cell 1 rfl; have f0 := xo.frozen 0; have f1 := (xo.set 0 (.slice GA n gc)).frozen 1; obtain ⟨Y, hY⟩ : ∃ Y, (X.setCell ⟨w4.heap.size, 0, none⟩ (.slice GA n gc)).setCell ⟨w4.heap.size, 1, none⟩ (.slice (some ⟨w1.heap.size, 0, none⟩) n n) = Y := ⟨_, rfl⟩; have xoY : Box Y w4.heap.size #[.slice GA n gc, .slice (some ⟨w1.heap.size, 0, none⟩) n n] 90 := hY ▸ (xo.set 0 _).set 1 _; have HSY : Hid (Y.heap.size = w4.heap.size + 1) := Lib.hid (by rw [← hY, World.size_setCell, World.size_setCell, HSX.out]); obtain ⟨U, HU⟩ : ∃ U, Hid (Y.alloc (.map #[] 0) = U) := ⟨_, Lib.hid rfl⟩; have hU := HU.out; have HSU : Hid (U.heap.size = Y.heap.size + 1) := Lib.hid (by rw [← hU]; simp); obtain ⟨Z1, HZ1, xf, hbZ1, hsZ1⟩ := boxes1 U #[.map none] 129; have hZ1 := HZ1.out; have HSZ1 := Lib.hid hsZ1; clear hsZ1; have f2 := xf.frozen 0; have cc2 := xf.c1; obtain ⟨Z, hZ⟩ : ∃ Z, Z1.setCell ⟨U.heap.size, 0, none⟩ (.map (some Y.heap.size)) = Z := ⟨_, rfl⟩)
  have xfZ : Box Z U.heap.size #[.map (some Y.heap.size)] 129 := hZ ▸ xf.set 0 _
  have hbZ : Below U.heap.size U Z := by rw [← hZ]; exact hbZ1.setCell (p := ⟨U.heap.size, 0, none⟩) (Nat.le_refl _) _
  have hsZ : Z.heap.size = U.heap.size + 1 := by rw [← hZ, World.size_setCell, HSZ1.out]
  have hbY : Below w4.heap.size w4 Y := by rw [← hY]; exact (hbX.setCell (p := ⟨w4.heap.size, 0, none⟩) (Nat.le_refl _) _).setCell (p := ⟨w4.heap.size, 1, none⟩) (Nat.le_refl _) _
  have hbU : Below Y.heap.size Y U := by rw [← hU]; exact (Below.refl _ _).alloc (Nat.le_refl _) _
  have hownU : U.ownsMap Tryz.prog 3 (plainElem (H := Unit) Tryz.prog 3) Y.heap.size 0 (.map []) := by rw [← hU]; exact World.ownsMap_made _ _ _ _
  have hb4 : Below w1.heap.size w1 w4 := (Below.refl _ _).grown hg4 (Nat.le_refl _) (by simp)
  have hs14 := (own_lt hown4).2
  have hbYZ : Below Y.heap.size Y Z := after_ hbU hbZ
  have hb4Z : Below w4.heap.size w4 Z := after_ hbY hbYZ
  have hMZ := hownU.kept (below_grown hbZ) (by simp)
  have hwl : ∃ wl : List SLc, wl.length = n ∧ wl.map (·.xs) = List.replicate n [] ∧ OrS w1.heap.size w4.heap.size w1 Z 0 (.map []) (.slice GA n gc) wl := by
    have hsp := (own_lt hown4).2
    refine ⟨List.replicate n M.noRow, by simp, by simp [M.noRow], rfl, hsp, after_ hb4 hb4Z, by rw [hsZ, HSU.out, HSY.out]; omega, ?_, ?_, ?_, ?_, ?_, ?_⟩
    · rw [List.length_replicate]; exact xoY.below hbYZ
    · rw [← HSY.out]; exact hMZ
    · have e : w4.heap.size + 2 = U.heap.size := by rw [HSU.out, HSY.out]
      rw [e, ← HSY.out]; exact xfZ
    · rw [List.length_replicate]; exact own_below hown4 hb4Z
    · intro k hk
      rw [List.getElem_replicate]
      exact own_nil _ _ _ _ _
    · intro i k hi hk _
      rw [List.getElem_replicate]
      exact .inl rfl
  have eU : U.heap.size = w4.heap.size + 2 := by rw [HSU.out, HSY.out]
  rw [eU]
  clear eU hX cc0 cc1 f0 f1 hY xoY hU hZ1 f2 cc2 hZ xfZ hbZ hsZ hbY hbU hownU hbYZ hb4Z hMZ hmm xo xf hbX hbZ1 HX HU HZ1 hown4 hg4 hs14 hb4
  obtain ⟨wl, hwn, hwx, hor⟩ := hwl
  generalize w4.heap.size = p at *
  generalize HG : M.grps t.ps t.l = G at *
  have HGG := Lib.hid HG
  have hGs : ∀ j (hj : j < n), (gs[j]'(by rw [HN.out]; exact hj)).xs = G.getD j [] := by
    intro j hj
    have e : (gs.map (·.xs)).getD j [] = G.getD j [] := by rw [HGS.out]
    rw [← e, List.getD_eq_getElem?_getD, List.getElem?_map, List.getElem?_eq_getElem (by rw [HN.out]; exact hj)]
    rfl
  have hGo : ∀ j (hj : j < n), (G.getD j []).length ≤ 512 ∧ ∀ st ∈ G.getD j [], 0 ≤ st ∧ st ≤ 511 := by
    intro j hj
    have hjg : j < G.length := by rw [← HGS.out, List.length_map, HN.out]; exact hj
    have hm : G.getD j [] ∈ M.grps t.ps t.l := by
      rw [HG, List.getD_eq_getElem?_getD, List.getElem?_eq_getElem hjg]
      exact List.getElem_mem hjg
    exact M.grps_small HOK.out hm
  have hGN : G.length = n := by rw [← HGS.out, List.length_map, HN.out]
  have HGs := Lib.hid hGs
  have HGo := Lib.hid hGo
  have HGN := Lib.hid hGN
  clear hGs hGo hGN HG
  have HLL : Hid (LL w1 GA gs) := Lib.hid HLO.out.ll
  have hrel0 : OfD (.map []) (fun s => M.gIxN G s 0) := OfD.start
  have HO0 := Lib.hid hrel0
  have x1H := Lib.hid x1
  have B1H := Lib.hid B1
  have tH := Lib.hid t1
  have HWN := Lib.hid hwn
  have HWX := Lib.hid hwx
  clear hrel0 x1 B1 t1 hwn hwx
  refine wp_loop_mrg [8, 9, 11, 42, 43, 44, 45, 46, 47, 48, 49, 50, 51, 52, 53, 54, 55, 56, 57, 58, 59, 60, 61, 62] (fun mm f ds W1 => ds = [] ∧ ∃ (k nn : Nat) (D : DataW Unit), f 42 = .int .i64 k ∧ mm = n - k ∧ k ≤ n ∧ nn ≤ 512 * k ∧ OrS w1.heap.size p w1 W1 nn D (.slice GA n gc) wl ∧ Hid (OfD D (fun s => M.gIxN G s k)) ∧ Hid (∀ j, j < k → M.small t (G.getD j []) = true)) n ⟨rfl, 0, 0, .map [], rfl, rfl, Nat.zero_le _, Nat.le_refl _, hor, HO0, Lib.hid (fun j h => absurd h (by omega))⟩ ?_
  clear hor HO0
  intro c1' T1' hc2 hT2
  rintro mm f ds W1 ⟨rfl, k, nn, D, hf42, rfl, hk, hnn, hor, HO, HS⟩
  replace hc2 := hc2.out
  subst hc2
  replace hT2 := hT2.out
  subst hT2
  generalize hF : mrgF _ 0 _ _ = F
  simp only [mrg_hit, mrg_miss, mrg_end, Nat.reduceBEq, Nat.reduceAdd] at hF
  rw [hf42] at hF
  subst hF
  by_cases hlt : k < n
  · have hLL := HLL.out.next hor.bel
    have hkg : k < gs.length := by rw [HN.out]; exact hlt
    obtain ⟨la, hla, hlb, a0⟩ := hLL.outer.sl1 hkg
    have hin := hLL.inner _ (List.getElem_mem hkg)
    rw [HGs.out k hlt] at a0 hin
    have HIN : Hid (∀ W, Below w1.heap.size w1 W → Sl 1 icell W W.heap.size gs[k].A (G.getD k [])) := Lib.hid (fun W hW => by have := (HLL.out.next hW).inner _ (List.getElem_mem hkg); rw [HGs.out k hlt] at this; exact this)
    obtain ⟨hgl, hgb⟩ := HGo.out k hlt
    have x0 : (0 : Int) ≤ (k : Int) := by omega
    have y0 : (k : Int) < (n : Int) := by omega
    have q0 : decide ((k : Int) < (n : Int)) = true := decide_eq_true y0
    have HSN : Hid (∀ g, g = G.getD k [] → M.small t g = true → ∀ j, j < k + 1 → M.small t (G.getD j []) = true) := Lib.hid (fun g e h j hj => by
      by_cases e2 : j = k
      · subst e2; rw [← e]; exact h
      · exact HS.out j (by omega))
    have HSB : Hid (M.small t (G.getD k []) = false → ¬ ∀ g ∈ M.grps t.ps t.l, M.small t g = true) := Lib.hid (fun e h => by
      have hkG : k < G.length := by rw [HGN.out]; exact hlt
      have := h (G.getD k []) (by rw [HGG.out, List.getD_eq_getElem?_getD, List.getElem?_eq_getElem hkG]; exact List.getElem_mem hkG)
      rw [e] at this
      cases this)
    have HIX : Hid (∀ s, M.gIxN G s (k + 1) = if s ∈ G.getD k [] then k else M.gIxN G s k) := Lib.hid (fun s => rfl)
    have HGK : Hid (G.getD k [] = G.getD k []) := Lib.hid rfl
    have kS := small_ok b a t gs[k].A gs[k].c (G.getD k []) W1 (hm1.next hor.bel) hin (by omega) (fun x hx => by have := hgb x hx; unfold M.W64; omega)
    have HGB := Lib.hid hgb
    clear hgb
    generalize G.getD k [] = g at *
    generalize gs[k].A = sA at *
    generalize gs[k].c = scp at *
    obtain ⟨gl, hgl2⟩ : ∃ gl, g.length = gl := ⟨_, rfl⟩
    rw [hgl2] at a0 kS
    generalize hsm : M.small t g = sm at *
    have HSM := Lib.hid hsm
    clear hsm
    subst hla
    go_wp2_with fail
    refine kS.mono ?_
    rintro e w3 ⟨rfl, hb3⟩
    clear kS a0
    have hor3 := hor.next hb3
    have hin3 := (hin.below hb3).more hb3.size
    clear hor hin hLL
    cases sm with
    | false =>
      have x3 := x1H.out.below hor3.bel
      have cc0 := x3.cell 0 rfl
      have cc1 := (x3.set 0 (.slice none 0 0)).cell 1 rfl
      have f0 := x3.frozen 0
      have f1 := (x3.set 0 (.slice none 0 0)).frozen 1
      have hbel := after_ B1H.out hor3.bel
      go_wp2_with fail
      have kz := (x3.set 0 (.slice none 0 0)).set 1 (.slice none 0 0)
      have kb := (hbel.setCell (p := ⟨w.heap.size, 0, none⟩) (Nat.le_refl _) (.slice none 0 0)).setCell (p := ⟨w.heap.size, 1, none⟩) (Nat.le_refl _) (.slice none 0 0)
      refine leaves_marks (B := w.heap.size) (C := w.heap.size) _ _ Marks.none_ (fun W' hs => ?_)
      have z0 := (hs.box kz).cell 0 rfl
      have z1 := (hs.box kz).cell 1 rfl
      exact ⟨.tuple #[.agg #[.slice none 0 0, .slice none 0 0], .int .i64 490], by simp [results, Tryz.results48, go_sem, z0, z1], .inl ⟨HSB.out trivial, rfl⟩, kb.trans (hs.below.mono (Nat.le_refl _))⟩
    | true =>
      have HS2 := Lib.hid (HSN.out g rfl HSM.out)
      have HO3 : Hid (OfD D (fun s => if s ∈ g.take 0 then k else M.gIxN G s k)) := Lib.hid (HO.out.congr (fun x => by simp))
      clear HSN HSB HO HS
      go_wp2_with fail
      refine wp_loop_mrg [11, 54, 55, 56, 57, 58, 59, 60, 61] (fun mm f ds W2 => ds = [] ∧ ∃ (j nn : Nat) (D : DataW Unit), f 54 = .int .i64 j ∧ mm = gl - j ∧ j ≤ gl ∧ nn ≤ 512 * k + j ∧ OrS w1.heap.size p w1 W2 nn D (.slice (some la) n gc) wl ∧ Hid (OfD D (fun s => if s ∈ g.take j then k else M.gIxN G s k))) gl ⟨rfl, 0, nn, D, rfl, rfl, Nat.zero_le _, hnn, hor3, HO3⟩ ?_
      clear hor3 HO3
      intro c2' T2' hc2 hT2
      rintro mm f ds W2 ⟨rfl, j, nn2, D2, hf54, rfl, hj, hnn2, hor2, HO2⟩
      replace hc2 := hc2.out
      subst hc2
      replace hT2 := hT2.out
      subst hT2
      generalize hF : mrgF _ 0 _ _ = F
      simp only [mrg_hit, mrg_miss, mrg_end, Nat.reduceBEq, Nat.reduceAdd] at hF
      rw [hf54] at hF
      subst hF
      by_cases hltj : j < gl
      · have hjg : j < g.length := by rw [hgl2]; exact hltj
        obtain ⟨la2, hla2, hlb2, a0⟩ := (HIN.out W2 hor2.bel).int1 hjg
        have xj0 : (0 : Int) ≤ (j : Int) := by omega
        have yj0 : (j : Int) < (gl : Int) := by omega
        have qj0 : decide ((j : Int) < (gl : Int)) = true := decide_eq_true yj0
        have HPD : Hid (OfD (D2.put (.int .i64 g[j]) (.lit (.int .i64 (k : Nat)))) (fun s => if s ∈ g.take (j + 1) then k else M.gIxN G s k)) := Lib.hid (HO2.out.put (fun x => by
          rw [List.take_succ_eq_append_getElem hjg]
          simp only [List.mem_append, List.mem_singleton]
          by_cases e : x = g[j]
          · rw [if_pos (.inr e), if_pos e]
          · rw [if_neg e]
            by_cases e2 : x ∈ g.take j
            · rw [if_pos (.inl e2), if_pos e2]
            · rw [if_neg (fun h => h.elim e2 e), if_neg e2]))
        have hbj := HGB.out _ (List.getElem_mem hjg)
        have HKY := Lib.hid (Maps.keyOf_int_mk (P := Tryz.prog) Tryz.underlying3 (wf64 (x := g[j]) (by unfold M.W64; omega)))
        have HWK : Hid ((Lit.int .i64 ((k : Nat) : Int)).wf = true) := Lib.hid (wf64 (by unfold M.W64; omega))
        have hmp := hor2.map
        have cf := hor2.xf.c1
        have HOR2 := Lib.hid hor2
        clear hor2 hbj
        generalize g[j] = st at *
        subst hla2
        go_wp2_with (at_mapUpdate; refine wpList_mapUpdate_own _ rfl _ _ _ 129 rfl 3 3 (Maps.int_keyed Tryz.underlying3) Tryz.underlying129 _ (p + 1) nn2 _ rfl hmp (by unfold maxLen; omega) _ _ _ rfl rfl HKY.out _ [] (plainElem_int Tryz.underlying3 HWK.out) ?_; intro w6 hown6 hg6)
        have hor6 := HOR2.out.put hown6 hg6
        have HOR6 := Lib.hid hor6
        clear hor6 hmp cf hown6 hg6 HOR2
        exact ⟨_, rfl, rfl, gl - (j + 1), by omega, trivial, j + 1, nn2 + 1, _, rfl, rfl, hltj, by omega, HOR6.out, HPD⟩
      · obtain rfl : j = gl := by omega
        have q1 : decide ((j : Int) < (j : Int)) = false := decide_eq_false (by omega)
        have HO4 : Hid (OfD D2 (fun s => M.gIxN G s (k + 1))) := Lib.hid (HO2.out.congr (fun x => by rw [HIX.out x, ← hgl2, List.take_length]))
        have hgl3 := hgl
        go_wp2_with fail
        exact ⟨_, rfl, rfl, n - (k + 1), by omega, trivial, k + 1, nn2, D2, rfl, rfl, hlt, by omega, hor2, HO4, HS2⟩
  · obtain rfl : k = n := by omega
    have q0 : decide ((k : Int) < (k : Int)) = false := decide_eq_false (by omega)
    have hall : ∀ g ∈ M.grps t.ps t.l, M.small t g = true := by
      intro g hg
      rw [HGG.out] at hg
      obtain ⟨j, hj, rfl⟩ := List.getElem_of_mem hg
      have h2 := HS.out j (by rw [← HGN.out]; exact hj)
      rw [List.getD_eq_getElem?_getD, List.getElem?_eq_getElem hj] at h2
      exact h2
    have HALL := Lib.hid hall
    have HOF : Hid (OfD D (M.gIx G)) := Lib.hid (HO.out.congr (fun x => by unfold M.gIx; rw [HGN.out]))
    have hm := hm1.next hor.bel
    have tw := tH.out.kept hor.bel
    obtain ⟨bv, nv, bs, ns, Dv, Ds, xb, -⟩ := hm.ex
    have c0 := xb.cell 0 rfl
    have c1 := xb.cell 1 rfl
    clear hall HS HO
    go_wp2_with fail
    have E0 : W1.drew.cell? ⟨b, 0, none⟩ = some (.slice a.P t.ps.length a.p) := c0
    have E1 : W1.drew.cell? ⟨b, 1, none⟩ = some (.slice a.L t.l.length a.l) := c1
    have hd := hm.next (Below.refl W1.heap.size W1).drew
    have lb := xb.lt
    refine wp_region_noPanic ?_
    refine wp_region_any (by kernel_rfl) ?_
    refine wpAny_of_L (S := (fun (_ : Array Bool) (w' : World) => w'.cell? ⟨b, 0, none⟩ = some (.slice a.P t.ps.length a.p) ∧ w'.cell? ⟨b, 1, none⟩ = some (.slice a.L t.l.length a.l))) _ _ _ _ ?_
    change wpAnyL Tryz.prog _ _ _ _ _ _ _ W1.drew
    refine wpAnyL_take (i := 0) (q := 1) (v := .pointer (some ⟨b, 0, none⟩)) (fun w' => True) rfl (by kernel_rfl) (by kernel_rfl) (by kernel_rfl) (fun c a w h => h) rfl (by kernel_rfl) (by decide) (fun ls w => by simp) (fun ls w h1 h2 => trivial) rfl rfl (fun w h => by go_simp) ⟨E0, E1⟩ ?_
    try simp only [Act.put]
    refine wpAnyL_take (i := 1) (q := 2) (v := .pointer (some ⟨b, 0, none⟩)) (fun w' => True) rfl (by kernel_rfl) (by kernel_rfl) (by kernel_rfl) (fun c a w h => h) rfl (by kernel_rfl) (by decide) (fun ls w => by simp) (fun ls w h1 h2 => trivial) rfl rfl (fun w h => by go_simp) ⟨E0, E1⟩ ?_
    try simp only [Act.put]
    refine wpAnyL_take (i := 2) (q := 3) (v := .pointer (some ⟨b, 0, none⟩)) (fun w' => True) rfl (by kernel_rfl) (by kernel_rfl) (by kernel_rfl) (fun c a w h => h) rfl (by kernel_rfl) (by decide) (fun ls w => by simp) (fun ls w h1 h2 => trivial) rfl rfl (fun w h => by go_simp) ⟨E0, E1⟩ ?_
    try simp only [Act.put]
    refine wpAnyL_take (i := 3) (q := 4) (v := .pointer (some ⟨b, 0, none⟩)) (fun w' => True) rfl (by kernel_rfl) (by kernel_rfl) (by kernel_rfl) (fun c a w h => h) rfl (by kernel_rfl) (by decide) (fun ls w => by simp) (fun ls w h1 h2 => trivial) rfl rfl (fun w h => by go_simp) ⟨E0, E1⟩ ?_
    try simp only [Act.put]
    refine wpAnyL_take (i := 4) (q := 10) (v := .slice a.P t.ps.length a.p) (fun w' => w'.cell? ⟨b, 0, none⟩ = some (.slice a.P t.ps.length a.p)) rfl (by kernel_rfl) (by kernel_rfl) (by kernel_rfl) (fun c a w h => h) rfl (by kernel_rfl) (by decide) (fun ls w => by simp) (fun ls w h1 h2 => h2.1) rfl rfl (fun w h => by go_simp) ⟨E0, E1⟩ ?_
    try simp only [Act.put]
    refine wpAnyL_take (i := 5) (q := 6) (v := .pointer (some ⟨b, 0, none⟩)) (fun w' => True) rfl (by kernel_rfl) (by kernel_rfl) (by kernel_rfl) (fun c a w h => h) rfl (by kernel_rfl) (by decide) (fun ls w => by simp) (fun ls w h1 h2 => trivial) rfl rfl (fun w h => by go_simp) ⟨E0, E1⟩ ?_
    try simp only [Act.put]
    refine wpAnyL_take (i := 6) (q := 7) (v := .pointer (some ⟨b, 0, none⟩)) (fun w' => True) rfl (by kernel_rfl) (by kernel_rfl) (by kernel_rfl) (fun c a w h => h) rfl (by kernel_rfl) (by decide) (fun ls w => by simp) (fun ls w h1 h2 => trivial) rfl rfl (fun w h => by go_simp) ⟨E0, E1⟩ ?_
    try simp only [Act.put]
    refine wpAnyL_take (i := 7) (q := 8) (v := .pointer (some ⟨b, 0, none⟩)) (fun w' => True) rfl (by kernel_rfl) (by kernel_rfl) (by kernel_rfl) (fun c a w h => h) rfl (by kernel_rfl) (by decide) (fun ls w => by simp) (fun ls w h1 h2 => trivial) rfl rfl (fun w h => by go_simp) ⟨E0, E1⟩ ?_
    try simp only [Act.put]
    refine wpAnyL_take (i := 8) (q := 9) (v := .pointer (some ⟨b, 1, none⟩)) (fun w' => True) rfl (by kernel_rfl) (by kernel_rfl) (by kernel_rfl) (fun c a w h => h) rfl (by kernel_rfl) (by decide) (fun ls w => by simp) (fun ls w h1 h2 => trivial) rfl rfl (fun w h => by go_simp) ⟨E0, E1⟩ ?_
    try simp only [Act.put]
    refine wpAnyL_take (i := 9) (q := 10) (v := .slice a.L t.l.length a.l) (fun w' => w'.cell? ⟨b, 1, none⟩ = some (.slice a.L t.l.length a.l)) rfl (by kernel_rfl) (by kernel_rfl) (by kernel_rfl) (fun c a w h => h) rfl (by kernel_rfl) (by decide) (fun ls w => by simp) (fun ls w h1 h2 => h2.2) rfl rfl (fun w h => by go_simp) ⟨E0, E1⟩ ?_
    try simp only [Act.put]
    refine wpAnyL_one (i := 10) (by kernel_rfl) ?_
    refine wpOp_K (fun K hK => ?_)
    refine wpOp_one rfl rfl ?_
    go_simp
    refine (hd.edges tw).mono ?_
    rintro e w3 ⟨⟨eb, EA, ec, rfl, heb, hbx, hrow⟩, hb1⟩
    have hbV : Below W1.heap.size W1 w3 := below_undrew hb1
    have xb1 := xb.below hbV
    have F0 := xb1.cell 0 rfl
    have F1 := xb1.cell 1 rfl
    have S0 := And.intro F0 F1
    clear E0 E1 F0 F1 hd xb1
    refine hK _ _ ⟨S0, ?_⟩
    clear hK K
    try simp only [Act.put]
    refine wpAnyL_done (by kernel_rfl) (NoPanic.normal ?_) _
    have hor3 := hor.next hbV
    obtain ⟨es, hes⟩ : ∃ es, M.edg t.ps t.l = es := ⟨_, rfl⟩
    rw [hes] at hbx hrow
    have HEL : Hid (es.length ≤ 1000000) := Lib.hid (by rw [← hes]; have := M.edg_len (ps := t.ps) HOK.out; omega)
    have HEO : Hid (∀ e ∈ es, (0 ≤ e.1 ∧ e.1 ≤ 511) ∧ (0 ≤ e.2 ∧ e.2 ≤ 511) ∧ 0 < G.length) := Lib.hid (fun e he => by rw [← HGG.out]; exact M.edg_ok HOK.out (by rw [hes]; exact he))
    have HES := Lib.hid hes
    have hlo : w1.heap.size < W1.heap.size := by have := hor.big; have := hor.sp; omega
    have hlp : p + 3 ≤ W1.heap.size := hor.big
    have HLW := Lib.hid hlo
    have HLP := Lib.hid hlp
    have HB3 : Hid (Below w1.heap.size w1 w3) := Lib.hid hor3.bel
    have HW3 : Hid (W1.heap.size ≤ w3.heap.size) := Lib.hid hbV.size
    have heb2 : W1.heap.size ≤ eb := heb
    have HEB := Lib.hid heb2
    clear hor hm tw xb c0 c1 hes hlo hlp S0 hbV hb1 lb heb heb2 hm1
    go_wp2_with fail
    refine wp_range (gf := 104) (lb := #[.pointer (some ⟨eb, 0, none⟩)]) rfl (enters_of Tryz.func104 (by kernel_rfl) rfl) (edges_seq eb ec EA es HEL.out) (fun _ => rfl)
      (fun pre W => ∃ wl : List SLc, wl.map (·.xs) = M.wts G pre ∧ OrS w1.heap.size p w1 W nn D (.slice GA k gc) wl ∧ Box W eb #[.slice EA es.length ec] 178 ∧ W.ownsRow W1.drew.heap.size 152 2 (.slice EA es.length ec) es.length (flat 2 e2cell es))
      (fun _ _ _ => False)
      ?hI ?hIx ?hK ⟨wl, ?_, hor3, hbx, hrow⟩ ?round ?done ?stop
    case hI => exact fun pre W W' row ⟨wl, h1, h2, h3, h4⟩ hg hr => ⟨wl, h1, h2.own (by have := HLP.out; have := HW3.out; omega) hg hr, h3.own hg hr, row_own h4 hg hr⟩
    case hIx => exact fun c' pre W W' row h _ _ => h
    case hK =>
      rintro pre W ⟨wl, -, -, h3, h4⟩
      refine ⟨h3, ?_⟩
      obtain ⟨A', c', e, hS⟩ := own_slice (by decide) h4
      injection e with e1 e2 e3
      subst e1
      exact hS
    case stop => exact fun c' pre W h _ => h.elim
    case round =>
      clear hor3 hbx hrow
      intro r' pre x post W hL hl' hd hi'
      gi_wp2
      refine ⟨hl', hd, hi', fun _ => True, fun _ _ _ _ _ _ _ => trivial, trivial, ?_⟩
      clear hl' hd hi'
      rintro r'' U hl' hd ⟨wl2, hwx2, hor, hbx, hrow⟩ -
      have hxe : x ∈ es := by rw [hL]; simp
      obtain ⟨hx1, hx2, hG0⟩ := HEO.out x hxe
      have HPR : Hid (pre.length ≤ 1000000) := Lib.hid (by have := HEL.out; rw [hL, List.length_append] at this; omega)
      have HST : Hid (M.wts G (pre ++ [x]) = M.wStep (M.gIx G) (M.wts G pre) x) := Lib.hid (M.wts_snoc _ _ _)
      have hi := M.gIx_lt hG0 x.1
      have hj := M.gIx_lt hG0 x.2
      rw [HGN.out] at hi hj
      have hwl2 : wl2.length = k := by
        have e := congrArg List.length hwx2
        rw [List.length_map, M.wts_len, HGN.out] at e
        exact e
      have lk : ∀ s : Int, (0 ≤ s ∧ s ≤ 511) → ∀ u : Kept U.heap.size U, (Instr.lookup 129 (.map (some (p + 1))) (.int .i64 s) false).run Tryz.prog u.val = .ok (.int .i64 (M.gIx G s : Nat)) u.val := fun s hs u => by
        have h64 : M.W64 s := by unfold M.W64; omega
        obtain ⟨cu, hlu, hau, -⟩ := (hor.map.kept (below_grown u.h) (by simp)).lookup_int (Maps.int_keyed Tryz.underlying3) Tryz.underlying129 Tryz.underlying3 (zeroIntG u.val) (Maps.keyOf_int_mk (P := Tryz.prog) Tryz.underlying3 (wf64 h64))
        rw [HOF.out.hit s h64] at hau
        obtain rfl : ((M.gIx G s : Nat) : Int) = cu := by injection hau with h2; injection h2
        exact hlu
      have lk1 := lk x.1 hx1
      have lk2 := lk x.2 hx2
      have cf := hor.xf.c1
      have lf := hor.xf.lt
      have HHJ : Hid (M.gIx G x.1 = M.gIx G x.1) := Lib.hid rfl
      have HWS : Hid (∀ k, (M.wStep (M.gIx G) (M.wts G pre) x).getD k [] = if k = M.gIx G x.1 ∧ M.gIx G x.1 ≠ M.gIx G x.2 ∧ ((M.gIx G x.2 : Nat) : Int) ∉ (M.wts G pre).getD k [] then (M.wts G pre).getD k [] ++ [((M.gIx G x.2 : Nat) : Int)] else (M.wts G pre).getD k []) := Lib.hid (M.wStep_row _ _ _ (by rw [M.wts_len, HGN.out]; exact hi))
      have HWE : Hid (M.wStep (M.gIx G) (M.wts G pre) x = if M.gIx G x.1 ≠ M.gIx G x.2 ∧ ((M.gIx G x.2 : Nat) : Int) ∉ (M.wts G pre).getD (M.gIx G x.1) [] then (M.wts G pre).set (M.gIx G x.1) ((M.wts G pre).getD (M.gIx G x.1) [] ++ [((M.gIx G x.2 : Nat) : Int)]) else M.wts G pre) := Lib.hid rfl
      have HRL : Hid (((M.wts G pre).getD (M.gIx G x.1) []).length ≤ 1000000) := Lib.hid (Nat.le_trans (M.wts_row_len _ _ _) HPR.out)
      clear lk hxe hx1 hx2 hG0 HWS HHJ hL
      generalize M.gIx G x.1 = i at *
      generalize M.gIx G x.2 = j at *
      generalize x.1 = xa at *
      generalize x.2 = xb at *
      gi_wp2_with fail
      refine wpIn_region_keptN U.heap.size U (by kernel_rfl) (by kernel_rfl) (by kernel_rfl) (Below.refl _ _) ?_
      repeat (go_big_quiet_step (fail))
      refine wpQuiet_nil ?_
      rintro w5 ⟨⟨w5x, hb5⟩, hw5⟩
      dsimp only at hw5
      subst hw5
      have hl5 := hl'.below hb5
      have hd5 := hd.below hb5
      have hor5 := hor.next hb5
      have hbx5 := hbx.below hb5
      have hrow5 := own_below hrow hb5
      clear lk1 lk2 cf lf hl' hd hor hbx hrow hb5
      have hiw : i < wl2.length := by rw [hwl2]; exact hi
      have hrx : wl2[i].xs = (M.wts G pre).getD i [] := by
        rw [← hwx2, List.getD_eq_getElem?_getD, List.getElem?_map, List.getElem?_eq_getElem hiw]
        rfl
      have HRX := Lib.hid hrx
      clear hrx
      by_cases hij : i = j
      · have HSE : Hid (M.wts G (pre ++ [x]) = M.wts G pre) := Lib.hid (by rw [HST.out, HWE.out, if_neg (fun h => h.1 hij)])
        have q0 : ((i : Int) == (j : Int)) = true := by rw [hij]; simp
        have q1 : ((i : Int) != (j : Int)) = false := by rw [hij]; simp
        clear hij
        gi_wp2_with fail
        refine ⟨trivial, ?_⟩
        gi_wp2_with fail
        exact ⟨hl5, hd5, wl2, by rw [HSE.out]; exact hwx2, hor5, hbx5, hrow5⟩
      · have hijI : ¬ ((i : Int) = (j : Int)) := by omega
        have q0 : ((i : Int) == (j : Int)) = false := by simpa using hijI
        have q1 : ((i : Int) != (j : Int)) = true := by simpa using hijI
        have xi0 : (0 : Int) ≤ (i : Int) := by omega
        have xi1 : (i : Int) < (k : Int) := by omega
        have cx := hor5.xo.cell 1 rfl
        rw [hwl2] at cx
        obtain ⟨rA, rc, sx, hsl⟩ : ∃ A c xs, wl2[i]'hiw = ⟨A, c, xs⟩ := ⟨_, _, _, rfl⟩
        have ci := (hor5.wt.at hiw).1
        have hin0 := hor5.wt.inner i hiw
        rw [hsl] at ci hin0
        dsimp only at ci hin0
        have hrx := HRX.out
        rw [hsl] at hrx
        dsimp only at hrx
        have hin := Sl.of_own (by decide) hin0
        obtain ⟨r, hr⟩ : ∃ r : Bool, r = true ↔ ((j : Nat) : Int) ∈ sx := ⟨decide (((j : Nat) : Int) ∈ sx), by simp⟩
        have kC := containsP_ok rA rc _ sx ((j : Nat) : Int) w5 hin (by rw [hrx]; have := HRL.out; omega) r hr
        have HR := Lib.hid hr
        have HIJ := Lib.hid hij
        have HSX := Lib.hid hrx
        have HSL := Lib.hid hsl
        obtain ⟨rn, hrn⟩ : ∃ n, sx.length = n := ⟨_, rfl⟩
        rw [hrn] at ci kC
        clear hr hin hin0 hij hijI hsl hrx hrn
        gi_wp2_with fail
        refine ⟨trivial, (callsIn_wide.2 kC).mono ?_⟩
        rintro e w6 ⟨rfl, hw6⟩
        subst hw6
        clear kC cx ci
        cases r with
        | true =>
          have HSE : Hid (M.wts G (pre ++ [x]) = M.wts G pre) := Lib.hid (by rw [HST.out, HWE.out, if_neg (fun h => h.2 (by rw [← HSX.out]; exact HR.out.1 rfl))])
          gi_wp2_with fail
          exact ⟨hl5, hd5, wl2, by rw [HSE.out]; exact hwx2, hor5, hbx5, hrow5⟩
        | false =>
          have HSE : Hid (M.wts G (pre ++ [x]) = (M.wts G pre).set i ((M.wts G pre).getD i [] ++ [((j : Nat) : Int)])) := Lib.hid (by rw [HST.out, HWE.out, if_pos ⟨HIJ.out, fun h => by rw [← HSX.out] at h; cases HR.out.2 h⟩])
          have hln : wl2[i].xs.length ≤ 1000000 := by rw [HRX.out]; exact HRL.out
          gi_wp2_with fail
          refine order_reg22 hor5 hiw hln (by kernel_rfl) ?_
          rintro y95 y96 y97 y98 y99 y100 y101 y102 y103 y104 y105 y106 wo r2 hr2 hor6 hh ⟨w8, v8, hg8, hwo⟩
          gi_wp2_with fail
          have hmap : (wl2.set i r2).map (·.xs) = M.wts G (pre ++ [x]) := by rw [HSE.out, List.map_set, hwx2, hr2, HRX.out]
          have hbo : Box wo eb #[.slice EA es.length ec] 178 := by
            rw [hwo]
            exact (hbx5.grown hg8 (hbx5.ne_own (by decide) (hor5.wt.inner i hiw))).set_other (p := ⟨w1.heap.size, i, none⟩) (by dsimp only; have := HEB.out; have := HLW.out; omega) _
          have hro : wo.ownsRow W1.drew.heap.size 152 2 (.slice EA es.length ec) es.length (flat 2 e2cell es) := by
            rw [hwo]
            have h1 := hrow5.kept hg8 (own_ne hrow5 (hor5.wt.inner i hiw) (by decide))
            refine h1.kept (grown_set w8 w1.heap.size i v8) ?_
            cases hv : (Value.slice EA es.length ec).ownBlock with
            | none => exact .inl rfl
            | some b9 => exact .inr (fun e => by have e2 : b9 = w1.heap.size := Option.some.inj e; have h2 : W1.drew.heap.size ≤ b9 := (h1.lt b9 hv).1; have h3 : W1.heap.size ≤ b9 := h2; have := HLW.out; omega)
          exact ⟨hh _ _ hl5 rfl, hh _ _ hd5 rfl, wl2.set i r2, hmap, hor6, hbo, hro⟩
    case done =>
      rintro W ⟨wl2, hwx2, hor, -, -⟩ hD
      have hwl2 : wl2.length = k := by
        have e := congrArg List.length hwx2
        rw [List.length_map, M.wts_len, HGN.out] at e
        exact e
      have HWL := Lib.hid hwl2
      have hbel := after_ B1H.out hor.bel
      have x2W := x1H.out.below hor.bel
      have cx0 := hor.xo.cell 0 rfl
      have cx1 := hor.xo.cell 1 rfl
      rw [hwl2] at cx1
      have cc0 := x2W.cell 0 rfl
      have cc1 : (W.setCell ⟨w.heap.size, 0, none⟩ (.slice GA k gc)).cell? ⟨w.heap.size, 1, none⟩ = some (.slice none 0 0) := (x2W.set 0 _).cell 1 rfl
      have f0 := x2W.frozen 0
      have f1 := (x2W.set 0 (.slice GA k gc)).frozen 1
      have hMf := (Marks.none_ (W := W)).cons (B := w.heap.size) (C := w.heap.size) (D := w3.heap.size) (by have := B1H.out.size; have := HB3.out.size; omega) (by have := B1H.out.size; have := HB3.out.size; omega) hD
      clear hwl2
      go_wp2_with fail
      have kz := (x2W.set 0 (.slice GA k gc)).set 1 (.slice (some ⟨w1.heap.size, 0, none⟩) k k)
      have kb := (hbel.setCell (p := ⟨w.heap.size, 0, none⟩) (Nat.le_refl _) (.slice GA k gc)).setCell (p := ⟨w.heap.size, 1, none⟩) (Nat.le_refl _) (.slice (some ⟨w1.heap.size, 0, none⟩) k k)
      have hMg := (hMf.set_other (i := 0) x2W (.slice GA k gc)).set_other (i := 1) (x2W.set 0 (.slice GA k gc)) (.slice (some ⟨w1.heap.size, 0, none⟩) k k)
      have hw1 : w.heap.size < w1.heap.size := x1H.out.lt
      have hwf := (hor.wt.far (grown_set W w.heap.size 0 (.slice GA k gc)) (by have := hor.sp; omega) (by omega)).far (grown_set _ w.heap.size 1 (.slice (some ⟨w1.heap.size, 0, none⟩) k k)) (by have := hor.sp; omega) (by omega)
      have hlf := ((HLO.out.below hor.bel).far (grown_set W w.heap.size 0 (.slice GA k gc)) HVL.out).far (grown_set _ w.heap.size 1 (.slice (some ⟨w1.heap.size, 0, none⟩) k k)) HVL.out
      refine leaves_marks (B := w.heap.size) _ _ hMg (fun W' hs => ?_)
      have z0 := (hs.box kz).cell 0 rfl
      have z1 := (hs.box kz).cell 1 rfl
      refine ⟨.tuple #[.agg #[.slice GA k gc, .slice (some ⟨w1.heap.size, 0, none⟩) k k], .int .i64 0], by simp [results, Tryz.results48, go_sem, z0, z1], .inr ⟨HALL.out, GA, gc, gs, w1.heap.size, wl2, ?_, ?_, HGS.out.trans HGG.out.symm, ?_, ?_⟩, kb.trans (hs.below.mono (Nat.le_refl _))⟩
      · rw [HN.out, HWL.out]
      · exact ⟨own_base (hs.own hlf.outer) (Nat.le_of_lt HVL.out), fun q hq => own_base (hs.own (hlf.inner q hq)) (Nat.le_of_lt HVL.out)⟩
      · refine ⟨Sl.of_own (by decide) (hs.own hwf.outer), fun q hq => ?_⟩
        obtain ⟨i, hi, rfl⟩ := List.getElem_of_mem hq
        exact Sl.of_own (by decide) (hs.own (hwf.inner i hi))
      · rw [HES.out, HGG.out]; exact hwx2
    · exact HWX.out.trans (by unfold M.wts; rw [HGN.out]; rfl)
end Go.Proofs.YtpkepgcmifdpfaaGreatDoor
end
