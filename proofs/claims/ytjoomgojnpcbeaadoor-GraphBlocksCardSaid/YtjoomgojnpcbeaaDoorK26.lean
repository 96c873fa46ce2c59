/- A bundle of texts: GhK1, GhK2, GhK3, GhK4, Re3. -/
import Derived.Test.YtjoomgojnpcbeaaDoorK02
import Derived.Test.YtjoomgojnpcbeaaDoorK15
import Derived.Test.YtjoomgojnpcbeaaDoorK17
import Derived.Test.YtjoomgojnpcbeaaDoorK07
import Derived.Deep.RegionHeld3
import Derived.Test.YtjoomgojnpcbeaaDoorK03
import Derived.Test.YtjoomgojnpcbeaaDoorK06
import Derived.Test.YtjoomgojnpcbeaaDoorK12
section
namespace Go.Proofs.YtjoomgojnpcbeaaDoor
open Go Go.RowKit Gh
set_option maxRecDepth 100000
structure ClS (w W : World) (g10 b10 b11 n C : Nat) (f : Nat → Nat) : Prop where
 bel : Below w.heap.size w W
 x10 : Box W b10 #[slv g10 n] 31
 o10 : W.ownsRow w.heap.size 3 1 (slv g10 n) n (flat 1 icell (nfl n f))
 x11 : Box W b11 (bsc C) 63
section
variable {w W W' : World} {g10 b10 b11 n C : Nat} {f : Nat → Nat}
theorem ClS.next (h : ClS w W g10 b10 b11 n C f) (hb : Below W.heap.size W W') : ClS w W' g10 b10 b11 n C f := ⟨after_ h.bel hb, h.x10.below hb, own_below h.o10 hb, h.x11.below hb⟩
theorem ClS.own {row : Option Nat} {B : Nat} (h : ClS w W g10 b10 b11 n C f) (hB : w.heap.size ≤ B) (hg : W.grownBy W' row) (hr : ∀ r, row = some r → B ≤ r ∧ ∃ o : Obj, W.heap[r]? = some o ∧ o.isCells = false) : ClS w W' g10 b10 b11 n C f :=
 ⟨below_own h.bel hB h.bel.size hg hr, h.x10.own hg hr, row_own h.o10 hg hr, h.x11.own hg hr⟩
theorem ClS.off {b : Nat} (h : ClS w W g10 b10 b11 n C f) (hb : g10 < b10 ∧ b10 < b11 ∧ w.heap.size ≤ b11) (hg : W.grownBy W' (some b)) (hn : b11 < b) : ClS w W' g10 b10 b11 n C f :=
 ⟨h.bel.grown hg h.bel.size (fun k e => by have := Option.some.inj e; omega), h.x10.grown hg (fun e => by have := Option.some.inj e; omega), h.o10.kept hg (.inr (fun e => by have e2 : g10 = b := Option.some.inj e; omega)), h.x11.grown hg (fun e => by have := Option.some.inj e; omega)⟩
end
set_option maxHeartbeats 32000000 in
theorem col_reg {Q : Exit → Act → World → Prop} {cd : Code} {ds0 : List Deferred} {Z1 Z2 Z3 Z4 Z5 Z6 Z7 Z8 Z9 Zc Zf Zg Zh Zi Zj Zk Zl Zm Zn Zo Zp Zq Zr Zs Zt Zu Zv Zw Zx Zy Zz Z10 Z11 Z12 Z13 Z14 Z15 Z16 Z17 Z18 Z19 Z1a Z1b Z1c Z1d Z1e Z1f Z1g Z1h Z1i Z1j Z1k Z1l Z1m Z1n Z1o Z1p Z1q Z1r Z1s Z1t Z1u Z1v Z1w Z1x Z1y Z1z Z20 Z21 Z22 Z23 Z24 Z25 Z26 Z27 Z28 Z29 Z2a Z2b Z2c Z2d Z2e Z2f Z2g Z2h Z2i Z2j Z2k Z2l Z2m Z2n Z2o Z2p : Value} (w W : World) (bg : Nat) (A : Option Addr) (c : Nat) (R : List Nat) (edges : Int) (g10 b10 b11 b14 C v : Nat) (f : Nat → Nat) (h : GG w bg A c R edges) (hv : v < R.length) (st : ClS w W g10 b10 b11 R.length C f) (hcd : (Tryd.f24.body.bind (regionOf 20)) = some cd)
  (hQ : ∀ (y58 y59 y60 y61 y62 y63 y64 y65 y66 : Value) (b : Nat) (W' : World), W.heap.size ≤ b → W'.heap.size = b + 1 → Below W.heap.size W W' → Box W' b (bsc (Dg.row R v &&& C)) 63 → Q .normal ⟨#[.pointer (some ⟨bg, 0, none⟩), Z1, Z2, Z3, Z4, Z5, Z6, Z7, Z8, Z9, .pointer (some ⟨b10, 0, none⟩), .pointer (some ⟨b11, 0, none⟩), Zc, .int .i64 (v : Nat), .pointer (some ⟨b14, 0, none⟩), Zf, Zg, Zh, Zi, Zj, Zk, Zl, Zm, Zn, Zo, Zp, Zq, Zr, Zs, Zt, Zu, Zv, Zw, Zx, Zy, Zz, Z10, Z11, Z12, Z13, Z14, Z15, Z16, Z17, Z18, Z19, Z1a, Z1b, Z1c, Z1d, Z1e, Z1f, Z1g, Z1h, Z1i, Z1j, Z1k, Z1l, y58, y59, y60, y61, y62, y63, y64, y65, y66, bsAll b, Z1w, Z1x, Z1y, Z1z, Z20, Z21, Z22, Z23, Z24, Z25, Z26, Z27, Z28, Z29, Z2a, Z2b, Z2c, Z2d, Z2e, Z2f, Z2g, Z2h, Z2i, Z2j, Z2k, Z2l, Z2m, Z2n, Z2o, Z2p], ds0⟩ W') :
  cd.wp Tryd.prog Q ⟨#[.pointer (some ⟨bg, 0, none⟩), Z1, Z2, Z3, Z4, Z5, Z6, Z7, Z8, Z9, .pointer (some ⟨b10, 0, none⟩), .pointer (some ⟨b11, 0, none⟩), Zc, .int .i64 (v : Nat), .pointer (some ⟨b14, 0, none⟩), Zf, Zg, Zh, Zi, Zj, Zk, Zl, Zm, Zn, Zo, Zp, Zq, Zr, Zs, Zt, Zu, Zv, Zw, Zx, Zy, Zz, Z10, Z11, Z12, Z13, Z14, Z15, Z16, Z17, Z18, Z19, Z1a, Z1b, Z1c, Z1d, Z1e, Z1f, Z1g, Z1h, Z1i, Z1j, Z1k, Z1l, Z1m, Z1n, Z1o, Z1p, Z1q, Z1r, Z1s, Z1t, Z1u, Z1v, Z1w, Z1x, Z1y, Z1z, Z20, Z21, Z22, Z23, Z24, Z25, Z26, Z27, Z28, Z29, Z2a, Z2b, Z2c, Z2d, Z2e, Z2f, Z2g, Z2h, Z2i, Z2j, Z2k, Z2l, Z2m, Z2n, Z2o, Z2p], ds0⟩ W := by
 have gg := h.next st.bel
 rw [show (Tryd.f24.body.bind (regionOf 20)) = some (Code.region 20 _ true) from rfl] at hcd
 obtain rfl := Option.some.inj hcd
 clear hcd
 obtain ⟨la, hla, hlb, a0, a1, a2, a3, a4, a5, a6, a7⟩ := gg.rows.bs8 hv
 obtain ⟨rv, hrv⟩ : ∃ r, R[v] = r := ⟨_, rfl⟩
 rw [row_at hv, hrv] at hQ
 have HQ := Lib.hid hQ
 clear hQ
 rw [hrv] at a0 a1 a2 a3 a4 a5 a6 a7
 obtain ⟨c0, c1, c2'⟩ := gg.box.c3
 obtain ⟨d0, d1, d2, d3, d4, d5, d6, d7⟩ := st.x11.w
 have x0 : (0 : Int) ≤ (v : Int) := by omega
 have x1' : (v : Int) < (R.length : Int) := by omega
 subst hla
 clear hrv
 refine wp_region_noPanic ?_
 go_region_law (go_simp; first | (go_at_call 62; refine (bsInter_ok rv C _).mono ?_; rintro e w2 ⟨rfl, hb2⟩) | (go_at_call 43; refine (bsAll_ok (rv &&& C) _).mono ?_; rintro e w4 ⟨rfl, hb4, hs4, xb⟩))
 all_goals refine NoPanic.normal ?_
 all_goals refine HQ.out _ _ _ _ _ _ _ _ _ w2.heap.size w4 ?_ hs4 ?_ xb
 all_goals first | exact hb2.size | exact (((Below.refl _ _).drew).trans hb2).size | exact hb2.trans (hb4.mono hb2.size) | skip
 all_goals first | exact (((Below.refl _ _).drew).trans hb2).trans (hb4.mono hb2.size)
end Go.Proofs.YtjoomgojnpcbeaaDoor
end

section
namespace Go.Proofs.YtjoomgojnpcbeaaDoor
open Go Go.RowKit Gh
set_option maxRecDepth 100000
set_option maxHeartbeats 32000000 in
theorem col_used {Q : Exit → Act → World → Prop} {cd : Code} {ds0 : List Deferred} {Z1 Z2 Z3 Z4 Z5 Z6 Z7 Z8 Z9 Zc Zf Zg Zh Zi Zj Zk Zl Zm Zn Zo Zp Zq Zr Zs Zt Zu Zv Zw Zx Zy Zz Z10 Z11 Z12 Z13 Z14 Z15 Z16 Z17 Z18 Z19 Z1a Z1b Z1c Z1d Z1e Z1f Z1g Z1h Z1i Z1j Z1k Z1l Z1m Z1n Z1o Z1p Z1q Z1r Z1s Z1t Z1u Z1v Z1w Z1x Z1y Z1z Z20 Z21 Z22 Z23 Z24 Z25 Z26 Z27 Z28 Z29 Z2a Z2b Z2c Z2d Z2e Z2f Z2g Z2h Z2i Z2j Z2k Z2l Z2m Z2n Z2o Z2p : Value} (w W : World) (bg : Nat) (A : Option Addr) (c : Nat) (R : List Nat) (edges : Int) (g10 b10 b11 b14 C v : Nat) (f : Nat → Nat) (ht : Tab64 w) (h : GG w bg A c R edges) (hfit : ∀ v x, (Dg.row R v).testBit x = true → x < R.length) (hv : v < R.length) (hf : ∀ x, f x < 512) (hb : g10 < b10 ∧ b10 < b11 ∧ w.heap.size ≤ b11) (hb14 : b11 < b14) (st : ClS w W g10 b10 b11 R.length C f) (x14 : Box W b14 (bsc 0) 63) (hM0 : Marks w.heap.size W.heap.size ds0 W) (hcd : (Tryd.f24.body.bind (fromReg 20)) = some cd)
    (hQ : ∀ (y58 y59 y60 y61 y62 y63 y64 y65 y66 y67 : Value) (ds : List Deferred) (W' : World), ClS w W' g10 b10 b11 R.length C f → Box W' b14 (bsc (usedF f (Bs.els (Dg.row R v &&& C) 0))) 63 → W.heap.size ≤ W'.heap.size → Marks w.heap.size W'.heap.size ds W' → Q .normal ⟨#[.pointer (some ⟨bg, 0, none⟩), Z1, Z2, Z3, Z4, Z5, Z6, Z7, Z8, Z9, .pointer (some ⟨b10, 0, none⟩), .pointer (some ⟨b11, 0, none⟩), Zc, .int .i64 (v : Nat), .pointer (some ⟨b14, 0, none⟩), Zf, Zg, Zh, Zi, Zj, Zk, Zl, Zm, Zn, Zo, Zp, Zq, Zr, Zs, Zt, Zu, Zv, Zw, Zx, Zy, Zz, Z10, Z11, Z12, Z13, Z14, Z15, Z16, Z17, Z18, Z19, Z1a, Z1b, Z1c, Z1d, Z1e, Z1f, Z1g, Z1h, Z1i, Z1j, Z1k, Z1l, y58, y59, y60, y61, y62, y63, y64, y65, y66, y67, Z1w, Z1x, Z1y, Z1z, Z20, Z21, Z22, Z23, Z24, Z25, Z26, Z27, Z28, Z29, Z2a, Z2b, Z2c, Z2d, Z2e, Z2f, Z2g, Z2h, Z2i, Z2j, Z2k, Z2l, Z2m, Z2n, Z2o, Z2p], ds⟩ W') :
    cd.wp Tryd.prog Q ⟨#[.pointer (some ⟨bg, 0, none⟩), Z1, Z2, Z3, Z4, Z5, Z6, Z7, Z8, Z9, .pointer (some ⟨b10, 0, none⟩), .pointer (some ⟨b11, 0, none⟩), Zc, .int .i64 (v : Nat), .pointer (some ⟨b14, 0, none⟩), Zf, Zg, Zh, Zi, Zj, Zk, Zl, Zm, Zn, Zo, Zp, Zq, Zr, Zs, Zt, Zu, Zv, Zw, Zx, Zy, Zz, Z10, Z11, Z12, Z13, Z14, Z15, Z16, Z17, Z18, Z19, Z1a, Z1b, Z1c, Z1d, Z1e, Z1f, Z1g, Z1h, Z1i, Z1j, Z1k, Z1l, Z1m, Z1n, Z1o, Z1p, Z1q, Z1r, Z1s, Z1t, Z1u, Z1v, Z1w, Z1x, Z1y, Z1z, Z20, Z21, Z22, Z23, Z24, Z25, Z26, Z27, Z28, Z29, Z2a, Z2b, Z2c, Z2d, Z2e, Z2f, Z2g, Z2h, Z2i, Z2j, Z2k, Z2l, Z2m, Z2n, Z2o, Z2p], ds0⟩ W := by
  have HFT : Hid (∀ x ∈ Bs.els (Dg.row R v &&& C) 0, x < R.length) := Lib.hid (fun x hx => by
    have hb := ((Bs.els_mem (Nat.zero_le _)).1 hx).2.2
    rw [Nat.testBit_and, Bool.and_eq_true] at hb
    exact hfit v x hb.1)
  have HLF := Lib.hid hf
  clear hfit hf
  rw [show (Tryd.f24.body.bind (fromReg 20)) = some (Code.seq (Code.region 20 _ true) _) from rfl] at hcd
  obtain rfl := Option.some.inj hcd
  clear hcd
  have HQ := Lib.hid hQ
  clear hQ
  refine wp_seq_k ?_
  intro K hK
  refine col_reg w W bg A c R edges g10 b10 b11 b14 C v f h hv st rfl ?_
  intro y58 y59 y60 y61 y62 y63 y64 y65 y66 b4 W4 hb4 hs4 hB4 xb
  dsimp only
  refine hK _ _ ?_
  clear hK
  have st4 := st.next hB4
  have y14 := x14.below hB4
  have hl14 := x14.lt
  have hMZ := (hM0.below hB4).more (C' := b4) hb4
  generalize Dg.row R v &&& C = S at *
  clear st x14
  go_wp2_with fail
  refine wp_range (gf := 65) (lb := #[.pointer (some ⟨b4, 0, none⟩)]) rfl (enters_of Tryd.func65 (by kernel_rfl) rfl) (bsAll_seq b4 S) (fun _ => rfl)
    (fun pre W1 => ClS w W1 g10 b10 b11 R.length C f ∧ Box W1 b14 (bsc (usedF f pre)) 63 ∧ Box W1 b4 (bsc S) 63 ∧ Marks w.heap.size b4 ds0 W1) (fun _ _ _ => False)
    ?hI (fun _ _ _ _ _ h => h.elim) ?hK ⟨st4, y14, xb, hMZ⟩ ?round ?done (fun _ _ _ h => h.elim)
  case hI => exact fun pre W1 W2 row ⟨h1, h2, h3, h4⟩ hg hr => ⟨h1.own (by have := hB4.size; have := st4.bel.size; omega) hg hr, h2.own hg hr, h3.own hg hr, h4.own (by omega) hg hr⟩
  case hK => exact fun pre W1 ⟨h1, h2, h3, h4⟩ => ⟨h3, ht.kept h1.bel⟩
  case round =>
    intro r' pre x post W1 hL hl' hd' hi
    gi_wp2
    refine ⟨hl', hd', hi, fun _ => True, fun _ _ _ _ _ _ _ => trivial, trivial, ?_⟩
    clear hl' hd' hi
    rintro r'' W2 hl2 hd2 ⟨h1, h2, h3, h4⟩ -
    have hxR := HFT.out x (by rw [hL]; simp)
    have hfx := HLF.out x
    have HP := Lib.hid (used_snoc f pre x)
    clear hL
    generalize usedF f (pre ++ [x]) = u' at *
    generalize usedF f pre = u at *
    have c0 := h1.x10.c1
    have c2 := (num_at h1.o10 hxR).1
    have x0 : (0 : Int) ≤ (x : Int) := by omega
    have x1 : (x : Int) < (R.length : Int) := by omega
    obtain ⟨d0, d1, d2, d3, d4, d5, d6, d7⟩ := h2.w
    have l2 := h2.lt
    have l10 := h1.x10.lt
    have lo := (h1.o10.lt g10 rfl).2
    gi_wp2_with fail
    refine wpIn_of_any (by kernel_rfl) (by kernel_rfl) ?_
    refine wpAny_quiet_free (C := fun w' => ∃ u : Kept W2.heap.size W2, w' = u.val) 6 #[true, true, true, true, true, true, true, false, false, false] (by kernel_rfl) ⟨⟨_, (Below.refl _ _).drew⟩, rfl⟩ ?_
    simp only [List.take_succ_cons, List.take_zero]
    iterate 7 (go_big_quiet_step ((go_at_call 59; exact Kept.calls (Nat.le_refl _) (bsAdd_ok u (f x) _ hfx))))
    refine wpQuiet_nil ?_
    rintro w6 ⟨⟨_, hb6⟩, rfl⟩
    clear c0 c2 d0 d1 d2 d3 d4 d5 d6 d7
    have k1 := h1.next hb6
    have k2 := h2.below hb6
    have k3 := h3.below hb6
    have k4 := h4.below hb6
    have kl := hl2.below hb6
    have kd := hd2.below hb6
    obtain ⟨g0, g1, g2, g3, g4', g5, g6, g7⟩ := k2.f8
    obtain ⟨d0, d1, d2, d3, d4, d5, d6, d7⟩ := k2.w
    obtain ⟨Y, HY, z, hBY, hsY, hoY⟩ := store8 w6 b14 (u ||| 2 ^ f x) _ _ k2 rfl
    have hgY := grown8 HY.out
    have hY := HY.out
    rw [← HP.out] at z
    have HZ : Hid (ClS w Y g10 b10 b11 R.length C f ∧ Box Y b14 (bsc u') 63 ∧ Box Y b4 (bsc S) 63 ∧ Marks w.heap.size b4 ds0 Y) := Lib.hid ⟨k1.off hb hgY hb14, z, hoY _ _ _ (by omega) k3, k4.set8 k2 HY.out⟩
    have hlY := kl.set8 rfl k2 HY.out
    have hdY := kd.set8 rfl k2 HY.out
    have q7 : (#[true, true, true, true, true, true, true, false, false, false] : Array Bool).setIfInBounds 7 true = #[true, true, true, true, true, true, true, true, false, false] := rfl
    refine wpAny_two (i := 7) (j := 8) (by kernel_rfl) ?_ ?_
    · refine wpOp_K (fun K hK => ?_)
      refine wpOp_one rfl rfl ?_
      go_simp
      refine hK _ _ ?_
      clear hK K
      refine wpAny_two (i := 8) (j := 9) (by kernel_rfl) ?_ ?_
      · refine wpOp_K (fun K hK => ?_)
        refine wpOp_one rfl rfl ?_
        go_simp
        refine hK _ _ ?_
        clear hK K
        refine wpAny_one (i := 9) (by kernel_rfl) ?_
        refine wpOp_K (fun K hK => ?_)
        refine wpOp_one rfl rfl ?_
        go_simp
        refine hK _ _ ?_
        clear hK K
        refine wpAny_end (by kernel_rfl) ?_
        exact ⟨hlY, hdY, HZ.out⟩
      · refine wpOp_K (fun K hK => ?_)
        refine wpOp_one rfl rfl ?_
        go_simp
        refine hK _ _ ?_
        clear hK K
        refine wpAny_one (i := 8) (by kernel_rfl) ?_
        refine wpOp_K (fun K hK => ?_)
        refine wpOp_one rfl rfl ?_
        go_simp
        refine hK _ _ ?_
        clear hK K
        refine wpAny_end (by kernel_rfl) ?_
        exact ⟨hlY, hdY, HZ.out⟩
    · refine wpOp_K (fun K hK => ?_)
      refine wpOp_one rfl rfl ?_
      go_simp
      refine hK _ _ ?_
      clear hK K
      refine wpAny_one (i := 7) (by kernel_rfl) ?_
      refine wpOp_K (fun K hK => ?_)
      refine wpOp_one rfl rfl ?_
      go_simp
      refine hK _ _ ?_
      clear hK K
      refine wpAny_one (i := 9) (by kernel_rfl) ?_
      refine wpOp_K (fun K hK => ?_)
      refine wpOp_one rfl rfl ?_
      go_simp
      refine hK _ _ ?_
      clear hK K
      refine wpAny_end (by kernel_rfl) ?_
      exact ⟨hlY, hdY, HZ.out⟩
  case done =>
    rintro W1 ⟨h1, h2, h3, h4⟩ hD
    go_wp2_with fail
    have hDl := hD.lt
    have hsw := st4.bel.size
    have hMf := (h4.cons (C := b4) (D := W4.heap.size) (by omega) (by omega) hD)
    exact HQ.out _ _ _ _ _ _ _ _ _ _ _ _ h1 h2 (by have := h3.lt; omega) (hMf.more hDl)
end Go.Proofs.YtjoomgojnpcbeaaDoor
end

section
namespace Go.Proofs.YtjoomgojnpcbeaaDoor
open Go Go.RowKit Gh
set_option maxRecDepth 100000
theorem ClS.set10 {w W : World} {g10 b10 b11 n C : Nat} {f : Nat → Nat} (h : ClS w W g10 b10 b11 n C f) (hb : g10 < b10 ∧ b10 < b11 ∧ w.heap.size ≤ b11) {x : Nat} (hx : x < n) (y : Nat) : ClS w (W.setCell ⟨g10, x, none⟩ (.int .i64 y)) g10 b10 b11 n C (upd f x y) := by
 have hg := grown_set W g10 x (.int .i64 y)
 have h1 := (h.o10.lt g10 rfl).1
 exact ⟨h.bel.grown hg h.bel.size (fun k e => by have := Option.some.inj e; omega), h.x10.grown hg (fun e => by have := Option.some.inj e; omega), num_set h.o10 hx y, h.x11.grown hg (fun e => by have := Option.some.inj e; omega)⟩
theorem upd_upd (f : Nat → Nat) (v x y : Nat) : upd (upd f v x) v y = upd f v y := by funext j; unfold upd; split <;> rfl
theorem upd_at (f : Nat → Nat) (v x : Nat) : upd f v x v = x := by unfold upd; rw [if_pos rfl]
set_option maxHeartbeats 32000000 in
theorem col_mex {Q : Exit → Act → World → Prop} {cd : Code} {ds0 : List Deferred} {Z1 Z2 Z3 Z4 Z5 Z6 Z7 Z8 Z9 Zc Zf Zg Zh Zi Zj Zk Zl Zm Zn Zo Zp Zq Zr Zs Zt Zu Zv Zw Zx Zy Zz Z10 Z11 Z12 Z13 Z14 Z15 Z16 Z17 Z18 Z19 Z1a Z1b Z1c Z1d Z1e Z1f Z1g Z1h Z1i Z1j Z1k Z1l Z1m Z1n Z1o Z1p Z1q Z1r Z1s Z1t Z1u Z1v Z1w Z1x Z1y Z1z Z20 Z21 Z22 Z23 Z24 Z25 Z26 Z27 Z28 Z29 Z2a Z2b Z2c Z2d Z2e Z2f Z2g Z2h Z2i Z2j Z2k Z2l Z2m Z2n Z2o Z2p : Value} (w W : World) (bg n g10 b10 b11 b14 C v u m k0 : Nat) (f : Nat → Nat) (hv : v < n) (hb : g10 < b10 ∧ b10 < b11 ∧ w.heap.size ≤ b11) (hb14 : b11 < b14) (hm : m ≤ 511) (hu : ∀ k, u.testBit k = true → k < m) (hk0 : k0 ≤ m) (st : ClS w W g10 b10 b11 n C (upd f v k0)) (x14 : Box W b14 (bsc u) 63) (hM0 : Marks w.heap.size W.heap.size ds0 W) (hcd : (Tryd.f24.body.bind (blockOf 6)) = some cd)
  (hQ : ∀ (y78 y79 y80 y81 y82 y83 y84 y85 y86 y87 y88 y89 : Value) (W' : World), ClS w W' g10 b10 b11 n C (upd f v (mexF u 512 k0)) → W.heap.size ≤ W'.heap.size → Marks w.heap.size W'.heap.size ds0 W' → Q .normal ⟨#[.pointer (some ⟨bg, 0, none⟩), Z1, Z2, Z3, Z4, Z5, Z6, Z7, Z8, Z9, .pointer (some ⟨b10, 0, none⟩), .pointer (some ⟨b11, 0, none⟩), Zc, .int .i64 (v : Nat), .pointer (some ⟨b14, 0, none⟩), Zf, Zg, Zh, Zi, Zj, Zk, Zl, Zm, Zn, Zo, Zp, Zq, Zr, Zs, Zt, Zu, Zv, Zw, Zx, Zy, Zz, Z10, Z11, Z12, Z13, Z14, Z15, Z16, Z17, Z18, Z19, Z1a, Z1b, Z1c, Z1d, Z1e, Z1f, Z1g, Z1h, Z1i, Z1j, Z1k, Z1l, Z1m, Z1n, Z1o, Z1p, Z1q, Z1r, Z1s, Z1t, Z1u, Z1v, Z1w, Z1x, Z1y, Z1z, Z20, Z21, Z22, Z23, Z24, Z25, y78, y79, y80, y81, y82, y83, y84, y85, y86, y87, y88, y89, Z2i, Z2j, Z2k, Z2l, Z2m, Z2n, Z2o, Z2p], ds0⟩ W') :
  cd.wp Tryd.prog Q ⟨#[.pointer (some ⟨bg, 0, none⟩), Z1, Z2, Z3, Z4, Z5, Z6, Z7, Z8, Z9, .pointer (some ⟨b10, 0, none⟩), .pointer (some ⟨b11, 0, none⟩), Zc, .int .i64 (v : Nat), .pointer (some ⟨b14, 0, none⟩), Zf, Zg, Zh, Zi, Zj, Zk, Zl, Zm, Zn, Zo, Zp, Zq, Zr, Zs, Zt, Zu, Zv, Zw, Zx, Zy, Zz, Z10, Z11, Z12, Z13, Z14, Z15, Z16, Z17, Z18, Z19, Z1a, Z1b, Z1c, Z1d, Z1e, Z1f, Z1g, Z1h, Z1i, Z1j, Z1k, Z1l, Z1m, Z1n, Z1o, Z1p, Z1q, Z1r, Z1s, Z1t, Z1u, Z1v, Z1w, Z1x, Z1y, Z1z, Z20, Z21, Z22, Z23, Z24, Z25, Z26, Z27, Z28, Z29, Z2a, Z2b, Z2c, Z2d, Z2e, Z2f, Z2g, Z2h, Z2i, Z2j, Z2k, Z2l, Z2m, Z2n, Z2o, Z2p], ds0⟩ W := by
 have HU := Lib.hid hu
 clear hu
 rw [show (Tryd.f24.body.bind (blockOf 6)) = some (Code.block 6 _) from rfl] at hcd
 obtain rfl := Option.some.inj hcd
 clear hcd
 obtain ⟨M, HM⟩ : ∃ M, Hid (mexF u 512 k0 = M) := ⟨_, Lib.hid rfl⟩
 rw [HM.out] at hQ
 have HQ := Lib.hid hQ
 clear hQ
 go_wp2_with fail
 refine wp_loop_mrg [78, 79, 80, 81, 82, 83, 84, 85, 86, 87, 88, 89] (fun mm _ ds W0 => ∃ k : Nat, ds = ds0 ∧ m - k = mm ∧ k ≤ m ∧ Hid (mexF u 512 k = M) ∧ ClS w W0 g10 b10 b11 n C (upd f v k) ∧ Box W0 b14 (bsc u) 63 ∧ W.heap.size ≤ W0.heap.size ∧ Marks w.heap.size W0.heap.size ds0 W0) (m - k0) ⟨k0, rfl, rfl, hk0, HM, st, x14, Nat.le_refl _, hM0⟩ ?_
 clear HM st x14 hM0 hk0
 intro c2' T2' hc2 hT2
 rintro mm f2 ds W0 ⟨k, rfl, rfl, hk, HM, st, x14, hs0, hM⟩
 replace hc2 := hc2.out
 subst hc2
 replace hT2 := hT2.out
 subst hT2
 generalize hF : mrgF _ 0 _ _ = F
 simp only [mrg_hit, mrg_miss, mrg_end, Nat.reduceBEq, Nat.reduceAdd] at hF
 subst hF
 have kH := fun W1 => bsHas_ok u k W1 (by omega)
 obtain ⟨d0, d1, d2, d3, d4, d5, d6, d7⟩ := x14.w
 have c0 := st.x10.c1
 have c2 := (num_at st.o10 hv).1
 rw [upd_at] at c2
 have x0 : (0 : Int) ≤ (v : Int) := by omega
 have x1 : (v : Int) < (n : Int) := by omega
 go_wp2_with fail
 refine wp_region_noPanic ?_
 go_region_law (go_simp; go_at_call 41; refine (kH _).mono ?_; rintro e w2 ⟨rfl, hb2⟩)
 all_goals refine NoPanic.normal ?_
 all_goals
  clear c0 c2 d0 d1 d2 d3 d4 d5 d6 d7 kH
  have st2 := (st.next (Below.refl _ _).drew).next hb2
  have z14 := (x14.below (Below.refl _ _).drew).below hb2
  have hM2 := (hM.below (Below.refl _ _).drew).below hb2
  have hs2 : W.heap.size ≤ w2.heap.size := Nat.le_trans hs0 hb2.size
  have hM3 := hM2.more (C' := w2.heap.size) hb2.size
  clear st x14 hM hM2
  cases hbk : u.testBit k with
  | false =>
   have e1 : k = M := by rw [← HM.out]; exact (mexF_end 512 hbk).symm
   subst e1
   go_wp2_with fail
   exact HQ.out _ _ _ _ _ _ _ _ _ _ _ _ _ st2 hs2 hM3
  | true =>
   have hkm := HU.out k hbk
   have HM2 : Hid (mexF u 512 (k + 1) = M) := Lib.hid (by rw [← HM.out, mexF_step 511 hbk]; exact mexF_fuel HU.out 512 511 (k + 1) (by omega) (by omega))
   have c0 := st2.x10.c1
   obtain ⟨c2, c3⟩ := num_at st2.o10 hv
   rw [upd_at] at c2
   have st3 := st2.set10 hb hv (k + 1)
   rw [upd_upd] at st3
   have hg1 := (st2.o10.lt g10 rfl).1
   have y14 := z14.set_other (p := ⟨g10, v, none⟩) (by dsimp only; omega) (.int .i64 ((k : Int) + 1))
   have hM4 := hM3.set_own (i := v) st2.o10 (.int .i64 ((k : Int) + 1))
   go_wp2_with fail
   exact ⟨_, rfl, rfl, m - (k + 1), by omega, k + 1, trivial, rfl, hkm, HM2, st3, y14, by rw [World.size_setCell]; exact hs2, by rw [World.size_setCell]; exact hM4⟩
end Go.Proofs.YtjoomgojnpcbeaaDoor
end

section
namespace Go.Proofs.YtjoomgojnpcbeaaDoor
open Go Go.RowKit Gh
set_option maxRecDepth 100000
namespace Gh
theorem okO_nodup (n : Nat) : ∀ (o : List Int) (all : Nat), okO n all o = true → o.Nodup ∧ ∀ v ∈ o, 0 ≤ v ∧ v < (n : Int) ∧ all.testBit v.toNat = false
  | [], all => by simp [okO]
  | v :: o, all => by
    rw [okO]
    split
    · next h =>
      intro h1
      obtain ⟨h1, h2⟩ := okO_nodup n o _ h1
      have hv : v ∉ o := fun hm => by
        have := (h2 v hm).2.2
        rw [Nat.testBit_or, Nat.testBit_two_pow, decide_eq_true rfl, Bool.or_true] at this
        cases this
      refine ⟨List.nodup_cons.2 ⟨hv, h1⟩, fun x hx => ?_⟩
      rcases List.mem_cons.1 hx with rfl | hx
      · exact h
      · obtain ⟨a, b, c⟩ := h2 x hx
        rw [Nat.testBit_or, Bool.or_eq_false_iff] at c
        exact ⟨a, b, c.1⟩
    · intro h1; cases h1
theorem nat_list {n : Nat} {o : List Int} (h : okO n 0 o = true) : ∃ O : List Nat, o = bsl O ∧ O.Nodup ∧ ∀ x ∈ O, x < n := by
  obtain ⟨h1, h2⟩ := okO_nodup n o 0 h
  have e : o = bsl (o.map Int.toNat) := by
    unfold bsl
    rw [List.map_map]
    refine (List.map_id o).symm.trans (List.map_congr_left fun x hx => ?_)
    have := h2 x hx
    simp only [id, Function.comp]
    omega
  refine ⟨o.map Int.toNat, e, ?_, fun x hx => ?_⟩
  · rw [e] at h1
    unfold bsl at h1
    exact (List.pairwise_map.1 h1).imp (fun h2 e => h2 (by rw [e]))
  · obtain ⟨v, hv, rfl⟩ := List.mem_map.1 hx
    have := h2 v hv
    omega
end Gh
theorem ClS.add11 {w W W' : World} {g10 b10 b11 n C C' : Nat} {f : Nat → Nat} (h : ClS w W g10 b10 b11 n C f) (hb : g10 < b10 ∧ b10 < b11 ∧ w.heap.size ≤ b11) (hg : W.grownBy W' (some b11)) (z : Box W' b11 (bsc C') 63) : ClS w W' g10 b10 b11 n C' f :=
  ⟨h.bel.grown hg h.bel.size (fun k e => by have := Option.some.inj e; omega), h.x10.grown hg (fun e => by have := Option.some.inj e; omega), h.o10.kept hg (.inr (fun e => by have e2 : g10 = b11 := Option.some.inj e; omega)), z⟩
theorem upd_self (f : Nat → Nat) (v : Nat) : upd f v (f v) = f := by funext j; unfold upd; split <;> simp_all
set_option maxHeartbeats 32000000 in
theorem col_round {Q : Exit → Act → World → Prop} {cd : Code} {ds0 : List Deferred} {Z1 Z2 Z3 Z4 Z5 Z6 Z7 Z8 Z9 Zc Zd Ze Zf Zg Zh Zi Zj Zk Zl Zm Zn Zo Zp Zq Zr Zs Zt Zu Zv Zw Zx Zy Zz Z10 Z11 Z12 Z13 Z14 Z15 Z16 Z17 Z18 Z19 Z1a Z1b Z1c Z1d Z1e Z1f Z1h Z1j Z1k Z1l Z1m Z1n Z1o Z1p Z1q Z1r Z1s Z1t Z1u Z1v Z1w Z1x Z1y Z1z Z20 Z21 Z22 Z23 Z24 Z25 Z26 Z27 Z28 Z29 Z2a Z2b Z2c Z2d Z2e Z2f Z2g Z2h Z2i Z2j Z2k Z2l Z2m Z2n Z2o Z2p : Value} (w W : World) (bg : Nat) (A : Option Addr) (c : Nat) (R : List Nat) (edges : Int) (g10 b10 b11 C v k m : Nat) (f : Nat → Nat) (OA : Option Addr) (oc : Nat) (o : List Int) (ht : Tab64 w) (h : GG w bg A c R edges) (hfit : ∀ v x, (Dg.row R v).testBit x = true → x < R.length) (hv : v < R.length) (hv2 : v < 512) (hf : ∀ x, f x < 512) (hb : g10 < b10 ∧ b10 < b11 ∧ w.heap.size ≤ b11) (st : ClS w W g10 b10 b11 R.length C f) (hM0 : Marks w.heap.size W.heap.size ds0 W) (hk : k < o.length) (hok : o[k] = (v : Int)) (ho : Sl 1 icell w w.heap.size OA o) (hm : m ≤ 511) (hu : ∀ j, (usedF f (Bs.els (Dg.row R v &&& C) 0)).testBit j = true → j < m) (hfv : f v ≤ m) (hcd : (Tryd.f24.body.bind (blockOf 3)) = some cd)
    (hQ : ∀ (y13 y14 y15 y56 y57 y58 y59 y60 y61 y62 y63 y64 y65 y66 y67 y68 y69 y70 y71 y72 y73 y74 y75 y76 y77 y78 y79 y80 y81 y82 y83 y84 y85 y86 y87 y88 y89 y90 y91 y92 y93 y94 y95 : Value) (ds : List Deferred) (W' : World), ClS w W' g10 b10 b11 R.length (C ||| 2 ^ v) (upd f v (mexF (usedF f (Bs.els (Dg.row R v &&& C) 0)) 512 (f v))) → Marks w.heap.size W'.heap.size ds W' → Q .normal ⟨#[.pointer (some ⟨bg, 0, none⟩), Z1, Z2, Z3, Z4, Z5, Z6, Z7, Z8, Z9, .pointer (some ⟨b10, 0, none⟩), .pointer (some ⟨b11, 0, none⟩), Zc, y13, y14, y15, Zg, Zh, Zi, Zj, Zk, Zl, Zm, Zn, Zo, Zp, Zq, Zr, Zs, Zt, Zu, Zv, Zw, Zx, Zy, Zz, Z10, Z11, Z12, Z13, Z14, Z15, Z16, Z17, Z18, Z19, Z1a, Z1b, Z1c, Z1d, Z1e, Z1f, .slice OA o.length oc, Z1h, .int .i64 (k : Nat), Z1j, y56, y57, y58, y59, y60, y61, y62, y63, y64, y65, y66, y67, y68, y69, y70, y71, y72, y73, y74, y75, y76, y77, y78, y79, y80, y81, y82, y83, y84, y85, y86, y87, y88, y89, y90, y91, y92, y93, y94, y95, Z2o, Z2p], ds⟩ W') :
    cd.wp Tryd.prog Q ⟨#[.pointer (some ⟨bg, 0, none⟩), Z1, Z2, Z3, Z4, Z5, Z6, Z7, Z8, Z9, .pointer (some ⟨b10, 0, none⟩), .pointer (some ⟨b11, 0, none⟩), Zc, Zd, Ze, Zf, Zg, Zh, Zi, Zj, Zk, Zl, Zm, Zn, Zo, Zp, Zq, Zr, Zs, Zt, Zu, Zv, Zw, Zx, Zy, Zz, Z10, Z11, Z12, Z13, Z14, Z15, Z16, Z17, Z18, Z19, Z1a, Z1b, Z1c, Z1d, Z1e, Z1f, .slice OA o.length oc, Z1h, .int .i64 (k : Nat), Z1j, Z1k, Z1l, Z1m, Z1n, Z1o, Z1p, Z1q, Z1r, Z1s, Z1t, Z1u, Z1v, Z1w, Z1x, Z1y, Z1z, Z20, Z21, Z22, Z23, Z24, Z25, Z26, Z27, Z28, Z29, Z2a, Z2b, Z2c, Z2d, Z2e, Z2f, Z2g, Z2h, Z2i, Z2j, Z2k, Z2l, Z2m, Z2n, Z2o, Z2p], ds0⟩ W := by
  rw [show (Tryd.f24.body.bind (blockOf 3)) = some (Code.block 3 _) from rfl] at hcd
  obtain rfl := Option.some.inj hcd
  clear hcd
  have HQ := Lib.hid hQ
  clear hQ
  have HFIT := Lib.hid hfit
  have HF := Lib.hid hf
  have HU := Lib.hid hu
  clear hfit hf hu
  obtain ⟨la, hla, hlb, a0⟩ := ((ho.below st.bel).more st.bel.size).int_at hk
  rw [hok] at a0
  have x0 : (0 : Int) ≤ (k : Int) := by omega
  have x1 : (k : Int) < (o.length : Int) := by omega
  clear hok
  subst hla
  refine wp_block ?_
  refine wp_seq_k ?_
  intro Ka hKa
  have HKa := Lib.hid hKa
  clear hKa
  go_wp2_with fail
  refine HKa.out _ _ ?_
  clear HKa a0 x0 x1
  obtain ⟨U, HUU, x14, hbU, hsU⟩ := boxes1 W (bsc 0) 63
  have hUU := HUU.out
  rw [zero8] at hUU
  have HSU := Lib.hid hsU
  clear hsU
  refine wp_seq_k ?_
  intro Kb hKb
  have HKb := Lib.hid hKb
  clear hKb
  go_wp2_with fail
  refine HKb.out _ _ ?_
  clear HKb hUU
  have st1 := st.next hbU
  have hM1 := (hM0.below hbU).more hbU.size
  have hb14 : b11 < W.heap.size := st.x11.lt
  refine wp_seq_k ?_
  intro Kc hKc
  refine col_used w U bg A c R edges g10 b10 b11 W.heap.size C v f ht h HFIT.out hv HF.out hb hb14 st1 x14 hM1 rfl ?_
  intro y58 y59 y60 y61 y62 y63 y64 y65 y66 y67 ds1 W1 st2 y14 hs1 hM2
  dsimp only
  refine hKc _ _ ?_
  clear hKc st1 hM1 x14
  generalize hU0 : usedF f (Bs.els (Dg.row R v &&& C) 0) = u at *
  clear hU0
  rw [← upd_self f v] at st2
  refine wp_seq_k ?_
  intro Kd hKd
  refine col_mex w W1 bg R.length g10 b10 b11 W.heap.size C v u m (f v) f hv hb hb14 hm HU.out hfv st2 y14 hM2 rfl ?_
  intro y78 y79 y80 y81 y82 y83 y84 y85 y86 y87 y88 y89 W2 st3 hs2 hM3
  dsimp only
  refine hKd _ _ ?_
  clear hKd st2 hM2 y14
  generalize upd f v (mexF u 512 (f v)) = f' at *
  have kA := bsAdd_ok C v W2 hv2
  obtain ⟨d0, d1, d2, d3, d4, d5, d6, d7⟩ := st3.x11.w
  go_wp2_with fail
  refine kA.mono ?_
  rintro e w3 ⟨rfl, hb3⟩
  clear d0 d1 d2 d3 d4 d5 d6 d7
  have st4 := st3.next hb3
  have hM4 := hM3.below hb3
  obtain ⟨Y, HY, z, hBY, hsY, hoY⟩ := store8 w3 b11 (C ||| 2 ^ v) _ _ st4.x11 rfl
  have hgY := grown8 HY.out
  have st5 := st4.add11 hb hgY z
  have hM5 := hM4.set8 st4.x11 HY.out
  have hY := HY.out
  obtain ⟨g0, g1, g2, g3, g4, g5, g6, g7⟩ := st4.x11.f8
  obtain ⟨d0, d1, d2, d3, d4, d5, d6, d7⟩ := st4.x11.w
  have hM6 := hM5.more (C' := Y.heap.size) (by have := hb3.size; omega)
  go_wp2_with fail
  exact HQ.out _ _ _ _ _ _ _ _ _ _ _ _ _ _ _ _ _ _ _ _ _ _ _ _ _ _ _ _ _ _ _ _ _ _ _ _ _ _ _ _ _ _ _ _ _ st5 hM6
set_option maxHeartbeats 64000000 in
theorem ghColour_ok (bg : Nat) (A : Option Addr) (c : Nat) (R : List Nat) (edges : Int) (OA : Option Addr) (oc : Nat) (o : List Int) (w : World) (ht : Tab64 w) (h : GG w bg A c R edges) (hl : R.length ≤ 512) (hfit : ∀ v x, (Dg.row R v).testBit x = true → x < R.length) (ho : Sl 1 icell w w.heap.size OA o) (hol : o.length ≤ 9223372036854775807) :
    Calls Tryd.prog 24 #[gp bg, .slice OA o.length oc] w fun e w' => (((o.length = R.length ∧ okO R.length 0 o = true) ∧ ∃ A' c' O, o = bsl O ∧ e = .returned (.tuple #[.slice A' R.length c', .int .i64 0]) ∧ Sl 1 icell w' w'.heap.size A' (nfl R.length (colF R O).2)) ∨ (¬ (o.length = R.length ∧ okO R.length 0 o = true) ∧ e = .returned (.tuple #[.slice none 0 0, .int .i64 2]))) ∧ Below w.heap.size w w' := by
  obtain ⟨i0, hi0, hz0, hz1, hz2⟩ := info_parts intInfoD
  have Hi := Lib.hid hi0; have Hz0 := Lib.hid hz0; have Hz1 := Lib.hid hz1; have Hz2 := Lib.hid hz2
  clear hi0 hz0 hz1 hz2
  have HFIT := Lib.hid hfit
  clear hfit
  have kV := ghValid_ok bg A c R edges w h
  obtain ⟨c0, c1, c2⟩ := h.box.c3
  refine calls_marks Tryd.func24 rfl ?_
  simp only [Tryd.ntmps24, List.size_toArray, List.length_cons, List.length_nil, Nat.reduceAdd, Nat.reduceSub, Array.replicate_succ, Array.replicate_zero, List.push_toArray, List.append_toArray, List.nil_append, List.cons_append]
  by_cases hlen : o.length = R.length
  rotate_left
  · have qn : ((o.length : Int) != (R.length : Int)) = true := by simpa using (by omega : ¬ (o.length : Int) = (R.length : Int))
    have HN : Hid (¬ (o.length = R.length ∧ okO R.length 0 o = true)) := Lib.hid (fun e => hlen e.1)
    clear hlen
    go_wp2_with fail
    refine kV.mono ?_
    rintro e w1 ⟨rfl, rfl⟩
    go_wp2_with fail
    exact leaves_marks (B := w.heap.size) (C := w.heap.size) _ _ Marks.none_ (fun W' hs => ⟨.tuple #[.slice none 0 0, .int .i64 2], by simp [results, Tryd.results24, go_sem], .inr ⟨HN.out, rfl⟩, hs.below⟩)
  have qn : ((o.length : Int) != (R.length : Int)) = false := by simpa using (by omega : (o.length : Int) = (R.length : Int))
  have HLEN := Lib.hid hlen
  clear hlen
  obtain ⟨U, HU, xU, hbU, hsU⟩ := boxes1 w (bsc 0) 63
  have hU := HU.out
  rw [zero8] at hU
  go_wp2_with fail
  refine kV.mono ?_
  rintro e w1 ⟨rfl, rfl⟩
  go_wp2_with fail
  clear hU HU kV c0 c1 c2 hsU qn
  go_loopw [30] (fun i wr => ∃ (k a : Nat), k ≤ o.length ∧ i = .int .i64 k ∧ Below w.heap.size w wr ∧ Box wr w.heap.size (bsc a) 63 ∧ Hid (okO R.length a (o.drop k) = okO R.length 0 o)) (fun i _ => o.length - (intOf i).toNat)
  case atStart => exact ⟨0, 0, Nat.zero_le _, rfl, hbU, xU, Lib.hid rfl⟩
  case round =>
    obtain ⟨k, a, hk, rfl, hBr, xb, HO⟩ := hrel
    clear hbU xU
    by_cases hlt : k < o.length
    · have x0 : (0 : Int) ≤ (k : Int) := by omega
      have x1 : (k : Int) < (o.length : Int) := by omega
      have q0 : decide ((k : Int) < (o.length : Int)) = true := decide_eq_true x1
      obtain ⟨la, hla, hlb, a0⟩ := ((ho.below hBr).more hBr.size).int_at hlt
      have HS : Hid (okO R.length 0 o = if 0 ≤ o[k] ∧ o[k] < (R.length : Int) ∧ a.testBit o[k].toNat = false then okO R.length (a ||| 2 ^ o[k].toNat) (o.drop (k + 1)) else false) := Lib.hid (by rw [← HO.out, List.drop_eq_getElem_cons hlt, okO])
      clear HO
      have kH := ghHas_ok bg A c R edges o[k] wr (h.next hBr)
      generalize o[k] = v at *
      cases hI : inR R v with
      | false =>
        have HN : Hid (¬ (o.length = R.length ∧ okO R.length 0 o = true)) := Lib.hid (fun e => by
          have e2 := HS.out
          rw [e.2, if_neg (fun hh => by
            have : inR R v = true := by unfold inR; rw [decide_eq_true hh.1, decide_eq_true hh.2.1]; rfl
            rw [hI] at this; cases this)] at e2
          cases e2)
        rw [hI] at kH
        clear HS
        subst hla
        go_wp2_with fail
        refine kH.mono ?_
        rintro e w1 ⟨rfl, rfl⟩
        go_wp2_with fail
        exact leaves_marks (B := w.heap.size) (C := w.heap.size) _ _ Marks.none_ (fun W' hs => ⟨.tuple #[.slice none 0 0, .int .i64 2], by simp [results, Tryd.results24, go_sem], .inr ⟨HN.out, rfl⟩, hBr.trans (hs.below.mono (Nat.le_refl _))⟩)
      | true =>
        rw [hI] at kH
        obtain ⟨j, rfl, hj⟩ := inR_yes hI
        clear hI
        have kB := bsHas_ok a j wr (by omega)
        obtain ⟨d0, d1, d2, d3, d4, d5, d6, d7⟩ := xb.w
        have hjR : (0 : Int) ≤ (j : Int) ∧ (j : Int) < (R.length : Int) := ⟨by omega, by omega⟩
        have HJ := Lib.hid hjR
        clear hjR
        cases hb : a.testBit j with
        | true =>
          have HN : Hid (¬ (o.length = R.length ∧ okO R.length 0 o = true)) := Lib.hid (fun e => by
            have e2 := HS.out
            rw [e.2, if_neg (fun hh => by have := hh.2.2; rw [Int.toNat_natCast, hb] at this; cases this)] at e2
            cases e2)
          rw [hb] at kB
          clear HS
          subst hla
          go_wp2_with fail
          refine kH.mono ?_
          rintro e w1 ⟨rfl, rfl⟩
          go_wp2_with fail
          refine kB.mono ?_
          rintro e w2 ⟨rfl, hb2⟩
          clear d0 d1 d2 d3 d4 d5 d6 d7
          have hB2 := after_ hBr hb2
          go_wp2_with fail
          exact leaves_marks (B := w.heap.size) (C := w.heap.size) _ _ Marks.none_ (fun W' hs => ⟨.tuple #[.slice none 0 0, .int .i64 2], by simp [results, Tryd.results24, go_sem], .inr ⟨HN.out, rfl⟩, hB2.trans (hs.below.mono (Nat.le_refl _))⟩)
        | false =>
          have HO : Hid (okO R.length (a ||| 2 ^ j) (o.drop (k + 1)) = okO R.length 0 o) := Lib.hid (by rw [HS.out, if_pos ⟨HJ.out.1, HJ.out.2, by rw [Int.toNat_natCast, hb]⟩, Int.toNat_natCast])
          rw [hb] at kB
          clear HS
          subst hla
          go_wp2_with fail
          refine kH.mono ?_
          rintro e w1 ⟨rfl, rfl⟩
          go_wp2_with fail
          refine kB.mono ?_
          rintro e w2 ⟨rfl, hb2⟩
          clear d0 d1 d2 d3 d4 d5 d6 d7 a0
          have hB2 := after_ hBr hb2
          have x2 := xb.below hb2
          have kA := bsAdd_ok a j w2 (by omega)
          obtain ⟨d0, d1, d2, d3, d4, d5, d6, d7⟩ := x2.w
          go_wp2_with fail
          refine kA.mono ?_
          rintro e w3 ⟨rfl, hb3⟩
          clear d0 d1 d2 d3 d4 d5 d6 d7
          have hB3 := after_ hB2 hb3
          have x3 := x2.below hb3
          obtain ⟨Y, HY, z, hBY, hsY, hoY⟩ := store8 w3 w.heap.size (a ||| 2 ^ j) _ _ x3 rfl
          have hY := HY.out
          obtain ⟨g0, g1, g2, g3, g4, g5, g6, g7⟩ := x3.f8
          obtain ⟨d0, d1, d2, d3, d4, d5, d6, d7⟩ := x3.w
          go_wp2_with fail
          go_roundw
          case rel => exact ⟨k + 1, a ||| 2 ^ j, hlt, by go_num, hBY _ _ (Nat.le_refl _) hB3, z, HO⟩
          case measure => simp [intOf]; omega
    · obtain rfl : k = o.length := by omega
      have q0 : decide ((o.length : Int) < (o.length : Int)) = false := decide_eq_false (by omega)
      have hok : okO R.length 0 o = true := by rw [← HO.out, List.drop_length]; rfl
      obtain ⟨O, hO, hOn, hOl⟩ := nat_list hok
      have HOO := Lib.hid hO
      have HON := Lib.hid hOn
      have HOL := Lib.hid hOl
      have HOK : Hid (o.length = R.length ∧ okO R.length 0 o = true) := Lib.hid ⟨HLEN.out, hok⟩
      have hOlen : O.length = o.length := by rw [hO]; simp [bsl]
      have HOLEN := Lib.hid hOlen
      clear hok hO hOn hOl hOlen HO hk
      have hz1' := hBr.size
      have lb := xb.lt
      go_wp2_with (at_make; go_loud (
        refine wpList_make_full _ rfl _ _ 31 rfl w.heap.size 3 i0 _ 1 Tryd.underlying31 Hi.out Hz0.out Hz1.out .i64 .i64 _ _ R.length rfl rfl rfl rfl (by rw [Hz2.out]; omega) (by unfold maxLen; omega) (by omega) ?_
        intro w3 hown3 hg3
        obtain ⟨X, HX, x10, hbX, hsX⟩ := boxes1 w3 #[.slice (some ⟨wr.heap.size, 0, none⟩) R.length R.length] 31
        obtain ⟨X2, HX2, x11, hbX2, hsX2⟩ := boxes1 X (bsc 0) 63
        have HSX := Lib.hid hsX
        have HSX2 := Lib.hid hsX2
        have hX := HX.out
        have hX2 := HX2.out
        rw [zero8] at hX2
        clear hsX hsX2))
      clear hX hX2
      have em := made_flat (cell := icell) (size := 1) (x0 := (0 : Int)) (by decide) (Value.int .i64 0).cells rfl R.length
      have em2 : flat 1 icell (List.replicate R.length (0 : Int)) = flat 1 icell (nfl R.length (fun _ => 0)) := by
        congr 1
        unfold nfl Dg.fl
        rw [List.map_const', List.length_range]
        rfl
      rw [em, em2] at hown3
      clear em em2
      have hgb3 : Below wr.heap.size wr w3 := (Below.refl _ _).grown hg3 (Nat.le_refl _) (by simp)
      have hz2' := (own_lt hown3).2
      have hz3' := HSX.out
      have hz4' := HSX2.out
      have hb : wr.heap.size < w3.heap.size ∧ w3.heap.size < X.heap.size ∧ w.heap.size ≤ X.heap.size := ⟨hz2', by omega, by omega⟩
      have st : ClS w X2 wr.heap.size w3.heap.size X.heap.size R.length (colF R (O.take 0)).1 (colF R (O.take 0)).2 :=
        ⟨((hBr.trans (hgb3.mono hz1')).trans (hbX.mono (by omega))).trans (hbX2.mono (by omega)), x10.below hbX2, own_below (own_below hown3 hbX) hbX2, x11⟩
      clear x10 x11 hown3 hg3 hgb3 hbX hbX2 HX HX2 HSX HSX2 hz1' hz2' hz3' hz4' xb lb
      generalize hg10 : wr.heap.size = g10 at *
      generalize hb10 : w3.heap.size = b10 at *
      generalize hb11 : X.heap.size = b11 at *
      clear hg10 hb10 hb11 hBr
      refine wp_loop_mrg [13, 14, 15, 54, 55, 56, 57, 58, 59, 60, 61, 62, 63, 64, 65, 66, 67, 68, 69, 70, 71, 72, 73, 74, 75, 76, 77, 78, 79, 80, 81, 82, 83, 84, 85, 86, 87, 88, 89, 90, 91, 92, 93, 94, 95, 96] (fun mm f ds W0 => ∃ (k : Nat), f 54 = .int .i64 k ∧ o.length - k = mm ∧ k ≤ o.length ∧ ClS w W0 g10 b10 b11 R.length (colF R (O.take k)).1 (colF R (O.take k)).2 ∧ Marks w.heap.size W0.heap.size ds W0) o.length ⟨0, rfl, rfl, Nat.zero_le _, st, Marks.none_⟩ ?_
      clear st
      intro c2' T2' hc2 hT2
      rintro mm f ds W0 ⟨k, hf54, rfl, hk, st, hM⟩
      replace hc2 := hc2.out
      subst hc2
      replace hT2 := hT2.out
      subst hT2
      generalize hFF : mrgF _ 0 _ _ = FF
      simp only [mrg_hit, mrg_miss, mrg_end, Nat.reduceBEq, Nat.reduceAdd] at hFF
      rw [hf54] at hFF
      subst hFF
      clear hf54
      by_cases hlt : k < o.length
      · have x0 : (0 : Int) ≤ (k : Int) := by omega
        have x1 : (k : Int) < (o.length : Int) := by omega
        have q0 : decide ((k : Int) < (o.length : Int)) = true := decide_eq_true x1
        have hlO : k < O.length := by rw [HOLEN.out]; exact hlt
        obtain ⟨la, hla, hlb, a0⟩ := ((ho.below st.bel).more st.bel.size).int_at hlt
        have hov : o[k] = ((O[k] : Nat) : Int) := by simp only [HOO.out]; simp [bsl]
        have HOV := Lib.hid hov
        clear hov a0 hlb hla
        have hvR : O[k] < R.length := HOL.out _ (List.getElem_mem hlO)
        have hI := CI.all (n := R.length) (R := R) _ (O.take k) rfl (HON.out.sublist (List.take_sublist _ _))
        have hkl : (O.take k).length = k := by rw [List.length_take]; omega
        have hk511 : k ≤ 511 := by have := HLEN.out; omega
        have hnot : O[k] ∉ O.take k := by
          intro hm
          obtain ⟨i, hi, e⟩ := List.getElem_of_mem hm
          rw [List.length_take] at hi
          rw [List.getElem_take] at e
          have := (List.nodup_iff_pairwise_ne.1 HON.out)
          have := List.pairwise_iff_getElem.1 this i k (by omega) hlO (by omega)
          exact this e
        have hu := hI.used (Dg.row R O[k])
        rw [hkl] at hu
        have hfv := hI.zero O[k] hnot
        have hf512 : ∀ x, (colF R (O.take k)).2 x < 512 := fun x => by
          by_cases hx : x ∈ O.take k
          · have := hI.lt x hx; omega
          · rw [hI.zero x hx]; omega
        have HNX : Hid ((colF R (O.take (k + 1))) = colR R (colF R (O.take k)) O[k]) := Lib.hid (by rw [List.take_succ_eq_append_getElem hlO, colF_snoc])
        obtain ⟨cn, hcn⟩ : ∃ cn, colF R (O.take (k + 1)) = cn := ⟨_, rfl⟩
        have HCN := Lib.hid hcn
        rw [hcn] at HNX
        clear hcn
        generalize colF R (O.take k) = cf at *
        obtain ⟨C, ff⟩ := cf
        dsimp only at st hu hfv hf512
        generalize O[k] = v at *
        have HU := Lib.hid hu
        have HF512 := Lib.hid hf512
        have HFV := Lib.hid hfv
        clear hI hkl hu hf512 hfv
        clear hnot
        refine wp_seq_k ?_
        intro Ka hKa
        have HKa := Lib.hid hKa
        clear hKa
        go_wp2_with fail
        refine HKa.out _ _ ?_
        clear HKa
        refine wp_seq_k ?_
        intro Kb hKb
        have HKb := Lib.hid hKb
        clear hKb
        go_wp2_with fail
        refine HKb.out _ _ ?_
        clear HKb
        refine wp_seq_k ?_
        intro Kc hKc
        refine col_round w W0 bg A c R edges g10 b10 b11 C v k k ff OA oc o ht h HFIT.out hvR (by omega) HF512.out hb st hM hlt HOV.out ho (by omega) HU.out (by rw [HFV.out]; omega) rfl ?_
        intro y13 y14 y15 y56 y57 y58 y59 y60 y61 y62 y63 y64 y65 y66 y67 y68 y69 y70 y71 y72 y73 y74 y75 y76 y77 y78 y79 y80 y81 y82 y83 y84 y85 y86 y87 y88 y89 y90 y91 y92 y93 y94 y95 ds' W' st' hM'
        dsimp only
        refine hKc _ _ ?_
        clear hKc
        rw [show (C ||| 2 ^ v) = cn.1 from by rw [HNX.out]; rfl, show upd ff v (mexF (usedF ff (Bs.els (Dg.row R v &&& C) 0)) 512 (ff v)) = cn.2 from by rw [HNX.out]; rfl] at st'
        rw [← HCN.out] at st'
        go_wp2_with fail
        exact ⟨_, rfl, rfl, o.length - (k + 1), by omega, k + 1, rfl, rfl, hlt, st', hM'⟩
      · obtain rfl : k = o.length := by omega
        have q0 : decide ((o.length : Int) < (o.length : Int)) = false := decide_eq_false (by omega)
        have c10 := st.x10.c1
        have hS9 := Sl.of_own (by decide) st.o10
        rw [← HOLEN.out, List.take_length] at hS9
        go_wp2_with fail
        refine leaves_marks (B := w.heap.size) _ _ hM (fun W' hs => ?_)
        exact ⟨_, results_tmp2 rfl _ _ _, .inl ⟨HOK.out, _, _, O, HOO.out, rfl, hs.sl hS9⟩, st.bel.trans hs.below⟩
end Go.Proofs.YtjoomgojnpcbeaaDoor
end

section
namespace Go.Proofs.YtjoomgojnpcbeaaDoor
open Go Go.RowKit Gh
set_option maxRecDepth 100000
namespace Ge
end Ge
end Go.Proofs.YtjoomgojnpcbeaaDoor
end
