/- A bundle of texts: GhC0, GhC1. -/
import Derived.Test.YtjoomgojnpcbeaaDoorK10
import Derived.Test.YtjoomgojnpcbeaaDoorK01
import Derived.Test.YtjoomgojnpcbeaaDoorK12
import Derived.Test.YtjoomgojnpcbeaaDoorK14
import Derived.Test.YtjoomgojnpcbeaaDoorK07
section
namespace Go.Proofs.YtjoomgojnpcbeaaDoor
open Go Go.RowKit
set_option maxRecDepth 100000
theorem grown_own {W W1 W2 : World} {row row2 : Option Nat} {B : Nat} (h : W.grownBy W1 row) (hB : W.heap.size ≤ B) (hg : W1.grownBy W2 row2) (hr : ∀ r, row2 = some r → B ≤ r ∧ ∃ o : Obj, W1.heap[r]? = some o ∧ o.isCells = false) : W.grownBy W2 row :=
  ⟨hg.os.trans h.os, hg.tape.trans h.tape, hg.output.trans h.output, Nat.le_trans h.size hg.size, fun k hk hne => (hg.block k (Nat.lt_of_lt_of_le hk h.size) (fun e => by have := (hr k e.symm).1; omega)).trans (h.block k hk hne)⟩
theorem grown_below {W W1 W2 : World} {row : Option Nat} (h : W.grownBy W1 row) (hb : Below W1.heap.size W1 W2) : W.grownBy W2 row :=
  ⟨hb.os.trans h.os, hb.tape.trans h.tape, hb.output.trans h.output, Nat.le_trans h.size hb.size, fun k hk hne => (hb.block k (Nat.lt_of_lt_of_le hk h.size)).trans (h.block k hk hne)⟩
theorem grown_new {W W1 W2 : World} {row : Option Nat} {g : Nat} (h : W.grownBy W1 row) (hg : W1.grownBy W2 (some g)) (hn : W.heap.size ≤ g ∨ row = some g) : W.grownBy W2 row :=
  ⟨hg.os.trans h.os, hg.tape.trans h.tape, hg.output.trans h.output, Nat.le_trans h.size hg.size, fun k hk hne => (hg.block k (Nat.lt_of_lt_of_le hk h.size) (fun e => by
    have e2 := Option.some.inj e
    subst e2
    rcases hn with hn | hn
    · omega
    · exact hne hn.symm)).trans (h.block k hk hne)⟩
set_option maxHeartbeats 32000000 in
theorem comp_grow {Q : Exit → Act → World → Prop} {cd : Code} {ds0 : List Deferred} {Z0 Z2 Z3 Z4 Z5 Z7 Z8 Z9 Za Zb Zc Zd Ze Zf Zg Zh Zi Zj Zk Zl Zm Zn Zo Zp Zq Zr Zs Zt Zu Zv Zw Zx Zy Zz Z10 Z11 Z12 Z13 Z14 Z15 Z16 Z17 Z18 Z19 Z1a Z1b Z1c Z1d Z1e Z1f Z1g Z1h Z1i Z1j Z1k Z1l : Value} (w W : World) (bg : Nat) (A : Option Addr) (c : Nat) (R : List Nat) (edges : Int) (v b1 b6 B : Nat) (ht : Tab64 w) (h : GG w bg A c R edges) (hR : Dg.Ok R) (hv : v < R.length) (hBW : Below w.heap.size w W) (hw6 : w.heap.size ≤ b6) (hB6 : B ≤ W.heap.size) (h16 : b1 < b6) (x1 : Box W b1 #[gp bg] 24) (x6 : Box W b6 (bsc (2 ^ v)) 63) (hM0 : Marks B W.heap.size ds0 W) (hcd : (Tryd.f14.body.bind (fromReg 8)) = some cd)
    (hQ : ∀ (y8 y9 y10 y25 y26 y27 y28 y29 y30 y31 y32 y33 y34 y35 y36 y37 y38 y39 y40 y41 y42 y43 y44 y45 y46 y47 : Value) (ds : List Deferred) (W' : World), Box W' b6 (bsc (Dg.rch R v)) 63 → W.grownBy W' (some b6) → Marks B W'.heap.size ds W' → Q .normal ⟨#[Z0, .pointer (some ⟨b1, 0, none⟩), Z2, Z3, Z4, Z5, .pointer (some ⟨b6, 0, none⟩), Z7, y8, y9, y10, Zb, Zc, Zd, Ze, Zf, Zg, Zh, Zi, Zj, Zk, Zl, Zm, Zn, Zo, y25, y26, y27, y28, y29, y30, y31, y32, y33, y34, y35, y36, y37, y38, y39, y40, y41, y42, y43, y44, y45, y46, y47, Z1c, Z1d, Z1e, Z1f, Z1g, Z1h, Z1i, Z1j, Z1k, Z1l], ds⟩ W') :
    cd.wp Tryd.prog Q ⟨#[Z0, .pointer (some ⟨b1, 0, none⟩), Z2, Z3, Z4, Z5, .pointer (some ⟨b6, 0, none⟩), Z7, Z8, Z9, Za, Zb, Zc, Zd, Ze, Zf, Zg, Zh, Zi, Zj, Zk, Zl, Zm, Zn, Zo, Zp, Zq, Zr, Zs, Zt, Zu, Zv, Zw, Zx, Zy, Zz, Z10, Z11, Z12, Z13, Z14, Z15, Z16, Z17, Z18, Z19, Z1a, Z1b, Z1c, Z1d, Z1e, Z1f, Z1g, Z1h, Z1i, Z1j, Z1k, Z1l], ds0⟩ W := by
  have HI := Lib.hid (Dg.RI.start hR hv)
  have hl512 := hR.len
  generalize 2 ^ v = u at *
  rw [show (Tryd.f14.body.bind (fromReg 8)) = some (Code.seq (Code.region 8 _ _) _) from rfl] at hcd
  obtain rfl := Option.some.inj hcd
  clear hcd
  have HQ := Lib.hid hQ
  clear hQ
  obtain ⟨U, HU, u8, hbU, hsU⟩ := boxes1 W (bsc u) 63
  obtain ⟨d0, d1, d2, d3, d4, d5, d6, d7⟩ := x6.w
  have hU := HU.out
  have HSU := Lib.hid hsU
  have hl6 := x6.lt
  have gU : W.grownBy U (some b6) := grown_any (below_grown hbU) _
  have x6U := x6.below hbU
  have hMU := (hM0.below hbU).more hbU.size
  clear hsU
  go_wp2_with fail
  clear hU HU d0 d1 d2 d3 d4 d5 d6 d7
  refine wp_loop_marks [8, 9, 10, 26, 27, 28, 29, 30, 31, 32, 33, 34, 35, 36, 37, 38, 39, 40, 41, 42, 43, 44, 45, 46, 47] (fun m us ds W0 => ∃ (b8 Fs T : Nat) (j9 j10 j26 j27 j28 j29 j30 j31 j32 j33 j34 j35 j36 j37 j38 j39 j40 j41 j42 j43 j44 j45 j46 j47 : Value), us = [.pointer (some ⟨b8, 0, none⟩), j9, j10, j26, j27, j28, j29, j30, j31, j32, j33, j34, j35, j36, j37, j38, j39, j40, j41, j42, j43, j44, j45, j46, j47] ∧ m = Dg.rlft Fs T ∧ W.grownBy W0 (some b6) ∧ Box W0 b6 (bsc Fs) 63 ∧ Box W0 b8 (bsc T) 63 ∧ W.heap.size ≤ b8 ∧ Hid (Dg.RI R v Fs T) ∧ Marks B W0.heap.size ds W0) (Dg.rlft u u) ⟨W.heap.size, u, u, _, _, _, _, _, _, _, _, _, _, _, _, _, _, _, _, _, _, _, _, _, _, _, _, rfl, rfl, gU, x6U, u8, Nat.le_refl _, HI, hMU⟩ ?_
  clear gU x6U u8 hMU hM0 hbU HI HSU
  rintro m us ds W0 ⟨b8, Fs, T, j9, j10, j26, j27, j28, j29, j30, j31, j32, j33, j34, j35, j36, j37, j38, j39, j40, j41, j42, j43, j44, j45, j46, j47, rfl, rfl, g0, x6', x8, hb8, HI, hM⟩
  simp only [over, List.zip_cons_cons, List.zip_nil_left, List.foldl_cons, List.foldl_nil, List.setIfInBounds_toArray, List.set_cons_succ, List.set_cons_zero]
  have kE := bsEmpty_ok T HI.out.fT W0
  obtain ⟨d0, d1, d2, d3, d4, d5, d6, d7⟩ := x8.w
  have HBW : Hid (∀ W1, W.grownBy W1 (some b6) → Below w.heap.size w W1) := Lib.hid (fun W1 g => hBW.grown g hBW.size (fun k e => by cases e; exact hw6))
  by_cases hT : T = 0
  · subst hT
    have HF := Lib.hid (HI.out.done hR hv)
    rw [decide_eq_true rfl] at kE
    go_wp2_with fail
    clear d0 d1 d2 d3 d4 d5 d6 d7
    refine kE.mono ?_
    rintro e w2 ⟨rfl, hb2⟩
    have y6 := x6'.below hb2
    go_wp2_with fail
    exact HQ.out _ _ _ _ _ _ _ _ _ _ _ _ _ _ _ _ _ _ _ _ _ _ _ _ _ _ _ _ (by rw [← HF.out]; exact y6) (grown_below g0 hb2) ((hM.below hb2).more hb2.size)
  · rw [decide_eq_false hT] at kE
    go_wp2_with fail
    clear d0 d1 d2 d3 d4 d5 d6 d7
    refine kE.mono ?_
    rintro e w2 ⟨rfl, hb2⟩
    have g2 := grown_below g0 hb2
    have z8 := x8.below hb2
    have z6 := x6'.below hb2
    obtain ⟨X, HX, x9, hbX, hsX⟩ := boxes1 w2 (bsc 0) 63
    have HSX := Lib.hid hsX
    obtain ⟨d0, d1, d2, d3, d4, d5, d6, d7⟩ := (z8.below hbX).w
    have hX := HX.out
    rw [zero8] at hX
    clear hsX
    go_wp2_with fail
    clear hX d0 d1 d2 d3 d4 d5 d6 d7
    refine (bsAll_ok T X).mono ?_
    rintro e w4 ⟨rfl, hb4, hs4, xb⟩
    have g4 := grown_below (grown_below g2 hbX) hb4
    have y6 := (z6.below hbX).below hb4
    have y8 := (z8.below hbX).below hb4
    have y9 := x9.below hb4
    have hl2 : w2.heap.size < X.heap.size := x9.lt
    have hl8 : b8 < w2.heap.size := z8.lt
    have hM4 := ((hM.below hb2).below hbX).below hb4
    have hW2 : W0.heap.size ≤ w2.heap.size := hb2.size
    have hWW : W.heap.size ≤ W0.heap.size := g0.size
    clear z8 z6 x6' x8 x9 hM g0 g2
    go_wp2_with fail
    refine wp_range (gf := 65) (lb := #[.pointer (some ⟨X.heap.size, 0, none⟩)]) rfl (enters_of Tryd.func65 (by kernel_rfl) rfl) (bsAll_seq X.heap.size T) (fun _ => rfl)
      (fun pre W1 => W.grownBy W1 (some b6) ∧ Box W1 b6 (bsc Fs) 63 ∧ Box W1 b8 (bsc T) 63 ∧ Box W1 w2.heap.size (bsc (pre.foldl (fun a x => a ||| Dg.row R x) 0)) 63 ∧ Box W1 X.heap.size (bsc T) 63 ∧ Marks B X.heap.size ds W1) (fun _ _ _ => False)
      ?hI (fun _ _ _ _ _ h => h.elim) ?hK ⟨g4, y6, y8, y9, xb, hM4.more (by omega)⟩ ?round ?done (fun _ _ _ h => h.elim)
    case hI => exact fun pre W1 W2 row ⟨h1, h2, h3, h4, h5, h6⟩ hg hr => ⟨grown_own h1 (by have := hb4.size; omega) hg hr, h2.own hg hr, h3.own hg hr, h4.own hg hr, h5.own hg hr, h6.own hb4.size hg hr⟩
    case hK => exact fun pre W1 ⟨h1, h2, h3, h4, h5, h6⟩ => ⟨h5, ht.kept (HBW.out W1 h1)⟩
    case round =>
      intro r' pre x post W1 hL hl hd hi
      gi_wp2
      refine ⟨hl, hd, hi, fun _ => True, fun _ _ _ _ _ _ _ => trivial, trivial, ?_⟩
      clear hl hd hi
      rintro r'' W2 hl hd ⟨h1, h2, h3, h4, h5, h6⟩ -
      have hxT : T.testBit x = true := (Bs.mem_els HI.out.fT).1 (by rw [hL]; simp)
      have hxR : x < R.length := (HI.out.rch x (HI.out.sub x hxT)).lt hR hv
      have HP : Hid ((pre ++ [x]).foldl (fun a x => a ||| Dg.row R x) 0 = pre.foldl (fun a x => a ||| Dg.row R x) 0 ||| Dg.row R x) := Lib.hid (by rw [List.foldl_append]; rfl)
      clear hL hxT
      have hDG := h.next (HBW.out W2 h1)
      obtain ⟨la, hla, hlb, a0, a1, a2, a3, a4, a5, a6, a7⟩ := hDG.rows.bs8 hxR
      obtain ⟨e0, e1, e2⟩ := hDG.box.c3
      rw [row_at hxR] at HP
      generalize pre.foldl (fun a x => a ||| Dg.row R x) 0 = N at *
      generalize (pre ++ [x]).foldl (fun a x => a ||| Dg.row R x) 0 = N' at *
      generalize R[x] = rx at *
      have z1 := x1.grown h1 (fun e => by have := Option.some.inj e; omega)
      have b0 := z1.c1
      obtain ⟨d0, d1, d2, d3, d4, d5, d6, d7⟩ := h4.w
      have x0 : (0 : Int) ≤ (x : Int) := by omega
      have x1' : (x : Int) < (R.length : Int) := by omega
      have l2 := z1.lt
      have l6 := h4.lt
      have lg := hDG.box.lt
      subst hla
      gi_wp2_with fail
      refine wpIn_region_kept_tail 9 W2.heap.size W2 (by kernel_rfl) (by kernel_rfl) (by kernel_rfl) (Below.refl _ _) ?_
      simp only [List.take_succ_cons, List.take_zero, List.drop_succ_cons, List.drop_zero]
      iterate 9 (go_big_quiet_step ((go_at_call 44; exact Kept.calls (Nat.le_refl _) (bsUnion_ok N rx _))))
      refine wpQuiet_nil ?_
      rintro w6 ⟨⟨_, hb6⟩, rfl⟩
      clear b0 d0 d1 d2 d3 d4 d5 d6 d7 a0 a1 a2 a3 a4 a5 a6 a7 e0 e1 e2
      have k1 := grown_below h1 hb6
      have y2 := h2.below hb6
      have y3 := h3.below hb6
      have y4 := h4.below hb6
      have y5 := h5.below hb6
      have hl6' := hl.below hb6
      have hd6 := hd.below hb6
      have hM6 := h6.below hb6
      obtain ⟨g0, g1, g2, g3, g4', g5, g6, g7⟩ := y4.f8
      obtain ⟨d0, d1, d2, d3, d4, d5, d6, d7⟩ := y4.w
      obtain ⟨Y, HY, z, hBY, hsY, hoY⟩ := store8 w6 w2.heap.size (N ||| rx) _ _ y4 rfl
      have hgY := grown8 HY.out
      have hY := HY.out
      rw [← HP.out] at z
      go_wp2_with fail
      change _ ∧ _ ∧ _
      exact ⟨hl6'.set8 rfl y4 HY.out, hd6.set8 rfl y4 HY.out, grown_new k1 hgY (.inl (by omega)), hoY _ _ _ (by omega) y2, hoY _ _ _ (by omega) y3, z, hoY _ _ _ (by omega) y5, hM6.set8 y4 HY.out⟩
    case done =>
      rintro W1 ⟨h1, h2, h3, h4, h5, h6⟩ hD
      have HN := Lib.hid (HI.out.next hR)
      have HLE := Lib.hid (Dg.RI.less (F := Fs) hR hT)
      have e1 : (Bs.els T 0).foldl (fun a x => a ||| Dg.row R x) 0 = Dg.nx R T := rfl
      rw [e1] at h4
      clear e1 HI
      generalize Dg.nx R T = N at *
      obtain ⟨d0, d1, d2, d3, d4, d5, d6, d7⟩ := h4.w
      obtain ⟨c0, c1, c2, c3, c4, c5, c6, c7⟩ := h2.w
      go_wp2_with fail
      clear d0 d1 d2 d3 d4 d5 d6 d7 c0 c1 c2 c3 c4 c5 c6 c7
      refine (bsMinus_ok N Fs W1).mono ?_
      rintro e w5 ⟨rfl, hb5⟩
      have k1 := grown_below h1 hb5
      have y2 := h2.below hb5
      have y3 := h3.below hb5
      obtain ⟨g0, g1, g2, g3, g4', g5, g6, g7⟩ := y3.f8
      obtain ⟨d0, d1, d2, d3, d4, d5, d6, d7⟩ := y3.w
      obtain ⟨Y, HY, z, hBY, hsY, hoY⟩ := store8 w5 b8 (Bs.dif N Fs) _ _ y3 rfl
      have hgY := grown8 HY.out
      have k2 := grown_new k1 hgY (.inl hb8)
      obtain ⟨z0, z1, z2, z3, z4, z5, z6, z7⟩ := z.w
      have y2Y := hoY _ _ _ (by omega) y2
      obtain ⟨c0, c1, c2, c3, c4, c5, c6, c7⟩ := y2Y.w
      have hY := HY.out
      go_wp2_with fail
      clear d0 d1 d2 d3 d4 d5 d6 d7 c0 c1 c2 c3 c4 c5 c6 c7 z0 z1 z2 z3 z4 z5 z6 z7 g0 g1 g2 g3 g4' g5 g6 g7
      refine (bsUnion_ok Fs (Bs.dif N Fs) Y).mono ?_
      rintro e w7 ⟨rfl, hb7⟩
      have k3 := grown_below k2 hb7
      have v2 := y2Y.below hb7
      have v3 := z.below hb7
      obtain ⟨g0, g1, g2, g3, g4', g5, g6, g7⟩ := v2.f8
      obtain ⟨d0, d1, d2, d3, d4, d5, d6, d7⟩ := v2.w
      obtain ⟨Y2, HY2, zz, hBY2, hsY2, hoY2⟩ := store8 w7 b6 (Fs ||| Bs.dif N Fs) _ _ v2 rfl
      have hgY2 := grown8 HY2.out
      have k4 := grown_new k3 hgY2 (.inr rfl)
      have v3Y := hoY2 _ _ _ (by omega) v3
      obtain ⟨c0, c1, c2, c3, c4, c5, c6, c7⟩ := v3Y.w
      obtain ⟨X2, HX2, q8, hbX2, hsX2⟩ := boxes1 Y2 (bsc (Bs.dif N Fs)) 63
      have hY2 := HY2.out
      clear hsX2
      go_wp2_with fail
      have hX2 := HX2.out
      rw [hX2]
      have hM2 := ((((h6.below hb5).set8 y3 HY.out).below hb7).set8 v2 HY2.out)
      have hMD := (((hD.below hb5).set8 rfl y3 HY.out).below hb7).set8 rfl v2 HY2.out
      have hDl := hMD.lt
      rw [hs4] at hMD
      have hMf := (hM2.cons (C := X.heap.size) (D := X.heap.size + 1) (by omega) (Nat.le_succ _) hMD)
      have hl5 := h5.lt
      have hs7 : X.heap.size + 1 ≤ Y2.heap.size := by rw [hsY2]; have := hb7.size; rw [hsY] at this; have := hb5.size; omega
      have k5 := grown_below k4 hbX2
      have q8' : W.heap.size ≤ w7.heap.size := k3.size
      rw [hsY2] at q8
      exact ⟨rfl, Dg.rlft (Fs ||| Bs.dif N Fs) (Bs.dif N Fs), HLE.out, w7.heap.size, Fs ||| Bs.dif N Fs, Bs.dif N Fs, _, _, _, _, _, _, _, _, _, _, _, _, _, _, _, _, _, _, _, _, _, _, _, _, rfl, rfl, k5, zz.below hbX2, q8, q8', HN, (hMf.below hbX2).more (by have := hbX2.size; omega)⟩
end Go.Proofs.YtjoomgojnpcbeaaDoor
end

section
namespace Go.Proofs.YtjoomgojnpcbeaaDoor
open Go Go.RowKit
set_option maxRecDepth 100000
structure CoS (w W : World) (P : Option Addr) (b1 b4 : Nat) (R : List Nat) (k : Nat) (vC : Value) (ls : List SLc) : Prop where
  bel : Below w.heap.size w W
  x1 : Box W b1 #[.pointer P] 24
  x4 : Box W b4 (bsc (Dg.uni R (Dg.lds R k))) 63
  lo : LO W (b4 + 1) vC ls
  lsx : ls.map (·.xs) = (Dg.cmpsTo R k).map bsl
section
variable {w W W' : World} {P : Option Addr} {b1 b4 : Nat} {R : List Nat} {k : Nat} {vC : Value} {ls : List SLc}
theorem CoS.next (h : CoS w W P b1 b4 R k vC ls) (hb : Below W.heap.size W W') : CoS w W' P b1 b4 R k vC ls := ⟨after_ h.bel hb, h.x1.below hb, h.x4.below hb, h.lo.below hb, h.lsx⟩
theorem CoS.off (h : CoS w W P b1 b4 R k vC ls) {b : Nat} (hg : W.grownBy W' (some b)) (hb : b4 < b) (hw : w.heap.size ≤ b) (h1 : b1 < b) (hn : ∀ q, (vC.ownBlock = some q ∨ ∃ s ∈ ls, (Value.slice s.A s.xs.length s.c).ownBlock = some q) → q ≠ b) : CoS w W' P b1 b4 R k vC ls :=
  ⟨h.bel.grown hg h.bel.size (fun q e => by have := Option.some.inj e; omega), h.x1.grown hg (fun e => by have := Option.some.inj e; omega), h.x4.grown hg (fun e => by have := Option.some.inj e; omega), h.lo.off hg (fun e => hn b (.inl e) rfl) (fun s hs e => hn b (.inr ⟨s, hs, e⟩) rfl), h.lsx⟩
end
set_option maxHeartbeats 32000000 in
theorem ghComponents_ok (P : Option Addr) (R : List Nat) (w : World) (h : GV w (.pointer P) R) (hR : Dg.Ok R) (hS : ∀ a b, (Dg.row R a).testBit b = true → (Dg.row R b).testBit a = true) (ht : Tab64 w) :
    Calls Tryd.prog 14 #[.pointer P] w fun e w' => ∃ (v : Value) (ls : List SLc), e = .returned v ∧ LO w' w.heap.size v ls ∧ ls.map (·.xs) = (Dg.cmps R).map bsl ∧ Below w.heap.size w w' := by
  obtain ⟨il, hil, hzl0, hzl1, hzl2⟩ := info_parts slInfo
  have Hil := Lib.hid hil; have Hzl0 := Lib.hid hzl0; have Hzl1 := Lib.hid hzl1; have Hzl2 := Lib.hid hzl2
  clear hil hzl0 hzl1 hzl2
  obtain ⟨V, HW, x1, x4, hB, hsV⟩ := boxes2 w #[.pointer P] 24 (bsc 0) 63
  have HSV := Lib.hid hsV
  have HSY := Lib.hid hS
  clear hS
  have c1 := x1.c1
  have kL := gvLen_ok (.pointer P) R V (h.next hB)
  have hl512 := hR.len
  have hV := HW.out
  rw [zero8] at hV
  clear hsV
  refine calls_marks Tryd.func14 rfl ?_
  simp only [Tryd.ntmps14, List.size_toArray, List.length_cons, List.length_nil, Nat.reduceAdd, Nat.reduceSub, Array.replicate_succ, Array.replicate_zero, List.push_toArray, List.append_toArray, List.nil_append, List.cons_append]
  go_wp2_with fail
  clear hV
  refine kL.mono ?_
  rintro e w1 ⟨rfl, rfl⟩
  clear kL c1
  have co : CoS w V P w.heap.size (w.heap.size + 1) R 0 (.slice none 0 0) [] := ⟨hB, x1, x4, LO.none_ _ _, rfl⟩
  have hV2 : w.heap.size + 2 ≤ V.heap.size := by rw [HSV.out]; omega
  clear x1 x4 hB
  go_wp2_with fail
  refine wp_loop_mrg [3, 5, 6, 7, 8, 9, 10, 13, 14, 15, 16, 17, 18, 19, 20, 21, 22, 23, 24, 25, 26, 27, 28, 29, 30, 31, 32, 33, 34, 35, 36, 37, 38, 39, 40, 41, 42, 43, 44, 45, 46, 47, 48, 49, 50, 51, 52, 53, 54, 55, 56] (fun mm f ds W0 => ∃ (k : Nat) (ls : List SLc), f 13 = .int .i64 k ∧ R.length - k = mm ∧ k ≤ R.length ∧ CoS w W0 P w.heap.size (w.heap.size + 1) R k (f 3) ls ∧ w.heap.size + 2 ≤ W0.heap.size ∧ Marks w.heap.size W0.heap.size ds W0) R.length ⟨0, [], rfl, rfl, Nat.zero_le _, co, hV2, Marks.none_⟩ ?_
  clear co hV2
  intro c2' T2' hc2 hT2
  rintro mm f ds W0 ⟨k, ls, hf13, rfl, hk, co, hsz, hM⟩
  replace hc2 := hc2.out
  subst hc2
  replace hT2 := hT2.out
  subst hT2
  generalize hF : mrgF _ 0 _ _ = F
  simp only [mrg_hit, mrg_miss, mrg_end, Nat.reduceBEq, Nat.reduceAdd] at hF
  rw [hf13] at hF
  subst hF
  clear hf13
  generalize f 3 = vC at *
  by_cases hlt : k < R.length
  · have q0 : decide ((k : Int) < (R.length : Int)) = true := decide_eq_true (by omega)
    have kH := bsHas_ok (Dg.uni R (Dg.lds R k)) k W0 (by omega)
    rw [Dg.seen_lead hR hlt] at kH
    obtain ⟨d0, d1, d2, d3, d4, d5, d6, d7⟩ := co.x4.w
    cases hld : Dg.lead R k with
    | false =>
      rw [hld] at kH
      have HN : Hid (Dg.lds R (k + 1) = Dg.lds R k ∧ Dg.cmpsTo R (k + 1) = Dg.cmpsTo R k) := Lib.hid ⟨Dg.lds_no hld, Dg.cmpsTo_no hld⟩
      go_wp2_with fail
      clear d0 d1 d2 d3 d4 d5 d6 d7
      refine kH.mono ?_
      rintro e w2 ⟨rfl, hb2⟩
      have co2 := co.next hb2
      go_wp2_with fail
      exact ⟨_, rfl, rfl, R.length - (k + 1), by omega, k + 1, ls, rfl, rfl, hlt, ⟨co2.bel, co2.x1, by rw [HN.out.1]; exact co2.x4, co2.lo, by rw [HN.out.2]; exact co2.lsx⟩, Nat.le_trans hsz hb2.size, (hM.below hb2).more hb2.size⟩
    | true =>
      rw [hld] at kH
      obtain ⟨bg, A, c, edges, hPe, hG⟩ := h.some_ (by omega)
      obtain rfl : P = some ⟨bg, 0, none⟩ := by injection hPe
      go_wp2_with fail
      clear d0 d1 d2 d3 d4 d5 d6 d7
      refine kH.mono ?_
      rintro e w2 ⟨rfl, hb2⟩
      have co2 := co.next hb2
      have hM2 := hM.below hb2
      obtain ⟨V2, HV2, xk, hbV2, hsV2⟩ := boxes1 w2 #[.int .i64 (k : Int)] 3
      have hV2 := HV2.out
      have kO := bsOf1_ok (some ⟨w2.heap.size, 0, none⟩) 1 k V2 (Sl.of_box xk (by simp [flat, icell])) (by omega)
      have co3 := co2.next hbV2
      have hM3 := hM2.below hbV2
      clear hsV2 kH
      go_wp2_with fail
      refine kO.mono ?_
      rintro e w3 ⟨rfl, hb3⟩
      rename_i K1 hK1 K0 hK0
      have HK1 := Lib.hid hK1
      clear hK1 hV2
      have co4 := co3.next hb3
      have hM4 := hM3.below hb3
      obtain ⟨V3, HV3, x6, hbV3, hsV3⟩ := boxes1 w3 (bsc (2 ^ k)) 63
      have hV3 := HV3.out
      have HSV3 := Lib.hid hsV3
      clear hsV3
      have co5 := co4.next hbV3
      have hM5 := (hM4.below hbV3).more (C' := V3.heap.size) (by have := hb2.size; have := hbV2.size; have := hb3.size; have := hbV3.size; omega)
      have hs3 : W0.heap.size ≤ w3.heap.size := by have := hb2.size; have := hbV2.size; have := hb3.size; omega
      have hlo3 : ∀ q, (vC.ownBlock = some q ∨ ∃ s ∈ ls, (Value.slice s.A s.xs.length s.c).ownBlock = some q) → q ≠ w3.heap.size := fun q hq => by
        rcases hq with e | ⟨s, hs, e⟩
        · have := (co4.lo.outer.lt q e).2; omega
        · have := ((co4.lo.inner s hs).lt q e).2; omega
      have HLO3 := Lib.hid hlo3
      clear hlo3 co2 co3 co4 hM2 hM3 hM4 hM kO co
      go_wp2_with fail
      refine HK1.out _ _ ?_
      clear HK1 hV3
      refine wp_seq_k ?_
      intro K2 hK2
      refine comp_grow w V3 bg A c R edges k w.heap.size w3.heap.size w.heap.size ht hG hR hlt co5.bel (by omega) co5.bel.size (by omega) co5.x1 x6 hM5 rfl ?_
      intro y8 y9 y10 y25 y26 y27 y28 y29 y30 y31 y32 y33 y34 y35 y36 y37 y38 y39 y40 y41 y42 y43 y44 y45 y46 y47 ds4 W4 x64 g4 hM6
      dsimp only
      refine hK2 _ _ ?_
      clear hK2
      have co6 := co5.off g4 (by omega) (by omega) (by omega) HLO3.out
      have hs4 : w.heap.size + 2 ≤ W4.heap.size := by have := x64.lt; omega
      have HN : Hid (Dg.uni R (Dg.lds R (k + 1)) = Dg.uni R (Dg.lds R k) ||| Dg.rch R k) := Lib.hid (by rw [Dg.lds_yes hld, Dg.uni_snoc, Dg.scc_rch hR HSY.out hlt])
      have HC := Lib.hid (Dg.cmpsTo_yes hld)
      have hll : ls.length ≤ 512 := by
        have h1 := congrArg List.length co6.lsx
        rw [List.length_map, List.length_map] at h1
        unfold Dg.cmpsTo at h1
        rw [List.length_map] at h1
        have := Dg.lds_len R k
        omega
      clear co5 hM5 x6
      generalize Dg.rch R k = rk at *
      obtain ⟨d0, d1, d2, d3, d4, d5, d6, d7⟩ := co6.x4.w
      obtain ⟨e0, e1, e2, e3, e4, e5, e6, e7⟩ := x64.w
      go_wp2_with fail
      clear d0 d1 d2 d3 d4 d5 d6 d7 e0 e1 e2 e3 e4 e5 e6 e7
      refine (bsUnion_ok (Dg.uni R (Dg.lds R k)) rk W4).mono ?_
      rintro e w5 ⟨rfl, hb5⟩
      rw [← HN.out]
      have co7 := co6.next hb5
      have x65 := x64.below hb5
      have hM7 := hM6.below hb5
      obtain ⟨Y, HY, z, hBY, hsY, hoY⟩ := store8 w5 (w.heap.size + 1) (Dg.uni R (Dg.lds R (k + 1))) _ _ co7.x4 rfl
      have hgY := grown8 HY.out
      have x1Y := co7.x1.grown hgY (fun e => by have := Option.some.inj e; omega)
      have loY := co7.lo.far hgY (by omega)
      have x6Y := hoY _ _ _ (by omega) x65
      have belY := co7.bel.grown hgY co7.bel.size (fun q e => by have := Option.some.inj e; omega)
      have hMY := hM7.set8 co7.x4 HY.out
      have HLSX := Lib.hid co7.lsx
      obtain ⟨g0, g1, g2, g3, g4', g5, g6, g7⟩ := co7.x4.f8
      obtain ⟨d0, d1, d2, d3, d4, d5, d6, d7⟩ := co7.x4.w
      obtain ⟨e0, e1, e2, e3, e4, e5, e6, e7⟩ := x6Y.w
      have hY := HY.out
      have hsW : W4.heap.size ≤ Y.heap.size := by rw [hsY]; exact hb5.size
      clear co6 co7 x64 x65 hM6 hM7
      go_wp2_with fail
      clear g0 g1 g2 g3 g4' g5 g6 g7 d0 d1 d2 d3 d4 d5 d6 d7 e0 e1 e2 e3 e4 e5 e6 e7 hY
      refine (bsList_own rk Y (ht.kept belY)).mono ?_
      rintro e w6 ⟨AL, cL, rfl, hownL, hb6⟩
      have z6 := z.below hb6
      have x16 := x1Y.below hb6
      have lo6 := loY.below hb6
      have bel6 := after_ belY hb6
      have hM8 := (hMY.below hb6).more (C' := w6.heap.size) (by have := hb6.size; have := hb5.size; omega)
      have hownL2 := own_base (base' := w.heap.size + 1 + 1) hownL (by omega)
      have hs6 : w.heap.size + 2 ≤ w6.heap.size := by have := hb6.size; omega
      have HCS : Hid ([Value.slice AL (bsl (Bs.els rk 0)).length cL] = (List.range 1).map (slcell (⟨AL, cL, bsl (Bs.els rk 0)⟩ : SLc))) := Lib.hid rfl
      clear z x1Y loY belY hMY
      go_wp2_with (at_builtin; go_loud (
        refine wpList_push (w0 := w) (cell := slcell) (y := (⟨AL, cL, bsl (Bs.els rk 0)⟩ : SLc)) rfl _ _ _ rfl (w.heap.size + 1 + 1) w.heap.size 31 il _ 24 Tryd.underlying28 Hil.out Hzl0.out Hzl1.out Hzl2.out rfl (by decide) _ _ _ rfl lo6.outer _ _ HCS.out _ rfl (sl_one _) (by unfold maxLen; omega) (by omega) (by omega) (by omega) bel6 ?_
        intro v' w7 hown7 hb7 hg7))
      replace hg7 : w6.grownBy w7 vC.ownBlock := hg7
      have lo7 := lo6.push hownL2 hown7 hg7
      have hne : ∀ b, b < w.heap.size + 1 + 1 → some b ≠ vC.ownBlock := fun b hb e => by have := (lo6.outer.lt b e.symm).1; omega
      have co9 : CoS w w7 (some ⟨bg, 0, none⟩) w.heap.size (w.heap.size + 1) R (k + 1) v' (ls ++ [⟨AL, cL, bsl (Bs.els rk 0)⟩]) := ⟨hb7, x16.grown hg7 (hne _ (by omega)), z6.grown hg7 (hne _ (by omega)), lo7, by rw [HC.out, List.map_append, List.map_append, HLSX.out]; rfl⟩
      have hM9 := (hM8.grown lo6.outer hg7).more (C' := w7.heap.size) hg7.size
      exact ⟨_, rfl, rfl, R.length - (k + 1), by omega, k + 1, _, rfl, rfl, hlt, co9, Nat.le_trans hs6 hg7.size, hM9⟩
  · obtain rfl : k = R.length := by omega
    have q0 : decide ((R.length : Int) < (R.length : Int)) = false := decide_eq_false (by omega)
    obtain ⟨A9, c9, rfl, hS9⟩ := own_slice (by decide) co.lo.outer
    go_wp2_with fail
    refine leaves_marks (B := w.heap.size) _ _ hM (fun W' hs => ⟨_, results_tmp rfl _ _ _, ?_⟩)
    exact ⟨_, ls, rfl, (hs.lo co.lo).low (by omega), co.lsx, co.bel.trans hs.below⟩
end Go.Proofs.YtjoomgojnpcbeaaDoor
end
