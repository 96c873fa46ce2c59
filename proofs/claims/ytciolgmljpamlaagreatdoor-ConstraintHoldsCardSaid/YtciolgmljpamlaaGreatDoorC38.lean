/- A bundle of texts: Rf11a. -/
import Derived.Test.YtciolgmljpamlaaGreatDoorC36
import Derived.Test.YtciolgmljpamlaaGreatDoorC01
import Derived.Test.YtciolgmljpamlaaGreatDoorC27
import Derived.Deep.RegionHeld3
import Derived.Deep.RegionLaw
import Derived.Test.YtciolgmljpamlaaGreatDoorC37
section
namespace Go.Proofs.YtciolgmljpamlaaGreatDoor
open Go Go.RowKit
set_option maxRecDepth 100000
structure TB6 (w : World) (bt : Nat) (W H : Int) (GA PA : Option Addr) (gc pc : Nat) (G P : List Int) : Prop where
 box : Box w bt #[.int .i64 W, .int .i64 H, .slice GA G.length gc, .slice PA P.length pc] 24
 g : Sl 1 icell w w.heap.size GA G
 p : Sl 1 icell w w.heap.size PA P
theorem TB6.next {w w' : World} {bt : Nat} {W H : Int} {GA PA : Option Addr} {gc pc : Nat} {G P : List Int} (h : TB6 w bt W H GA PA gc pc G P) (hb : Below w.heap.size w w') : TB6 w' bt W H GA PA gc pc G P := ⟨h.box.below hb, (h.g.below hb).more hb.size, (h.p.below hb).more hb.size⟩
set_option maxHeartbeats 32000000 in
theorem b16_f {Q : Exit → Act → World → Prop} {cd : Code} {dl : List Deferred} {Z0 Z1 Z2 Z4 Z5 Z6 Zc Zf Zg Zh Zi Zj Zk Zl Zm Zn Zo Zp Zq Zr Zs Zt Zu Zv Zw Zx Zy Zz Z10 Z11 Z12 Z13 Z14 Z15 Z16 Z17 Z18 Z19 Z1a Z1b Z1c Z1d Z1e Z1f Z1g Z1h Z1i Z1j Z1k Z1l Z1m Z1n Z1o Z1p Z1q Z1r Z1s Z1t Z1u Z1v Z1w Z1x Z1y Z1z Z20 Z21 Z22 Z23 Z24 Z25 Z26 Z27 Z28 Z29 Z2a Z2b Z2c Z2d Z2e Z2f Z2g Z2h Z2i Z2j Z2k Z2l Z2m Z2n Z2o Z2p Z2q Z2r Z2s Z2t Z2u Z2v Z2w Z2x Z2y Z2z Z30 Z31 Z32 Z33 Z34 Z35 Z36 Z37 Z38 Z39 Z3a Z3b Z3c Z3d Z3e Z3f Z3g Z3h Z3i Z3j Z3k Z3l Z3m Z3n Z3o Z3p Z3q Z3r Z3s Z3t Z3u Z3v Z3w Z3x Z3y Z3z Z40 Z41 Z42 Z43 Z44 Z45 Z46 Z47 : Value} (W H : Int) (GA PA : Option Addr) (gc pc : Nat) (G P : List Int) (SA : Option Addr) (sc : Nat) (ts : List SE) (lo hh : Int) (X : World) (bt br i k : Nat) (tb : TB6 X bt W H GA PA gc pc G P) (hL : Sl 8 secell X X.heap.size SA ts) (hP : Pats X ts) (hok : ∀ j (hj : j < ts.length), M.okS W H G P ts[j].s = true) (hi : i < ts.length) (hk : k < ts.length) (o : Int) (ho : -1 ≤ o ∧ o ≤ 1) (hcd : (Tryz.f27.body.bind (regionOf 14)) = some cd)
  (hQ : ∀ (y44 y45 y46 y47 y48 y49 y50 y51 y52 y53 : Value) (wo : World) (r : Bool), r = M.forb W H G P ts[i].s ts[k].s o → Below X.heap.size X wo → Q .normal ⟨#[Z0,Z1,Z2,.pointer (some ⟨bt, 0, none⟩),Z4,Z5,Z6,.pointer (some ⟨br, 0, none⟩),.slice SA ts.length sc,.int .i64 lo,.int .i64 hh,.int .i64 i,Zc,.int .i64 k,.int .i64 o,Zf,Zg,Zh,Zi,Zj,Zk,Zl,Zm,Zn,Zo,Zp,Zq,Zr,Zs,Zt,Zu,Zv,Zw,Zx,Zy,Zz,Z10,Z11,Z12,Z13,Z14,Z15,Z16,Z17,y44,y45,y46,y47,y48,y49,y50,y51,y52,y53,.bool r,Z1j,Z1k,Z1l,Z1m,Z1n,Z1o,Z1p,Z1q,Z1r,Z1s,Z1t,Z1u,Z1v,Z1w,Z1x,Z1y,Z1z,Z20,Z21,Z22,Z23,Z24,Z25,Z26,Z27,Z28,Z29,Z2a,Z2b,Z2c,Z2d,Z2e,Z2f,Z2g,Z2h,Z2i,Z2j,Z2k,Z2l,Z2m,Z2n,Z2o,Z2p,Z2q,Z2r,Z2s,Z2t,Z2u,Z2v,Z2w,Z2x,Z2y,Z2z,Z30,Z31,Z32,Z33,Z34,Z35,Z36,Z37,Z38,Z39,Z3a,Z3b,Z3c,Z3d,Z3e,Z3f,Z3g,Z3h,Z3i,Z3j,Z3k,Z3l,Z3m,Z3n,Z3o,Z3p,Z3q,Z3r,Z3s,Z3t,Z3u,Z3v,Z3w,Z3x,Z3y,Z3z,Z40,Z41,Z42,Z43,Z44,Z45,Z46,Z47], dl⟩ wo) :
  cd.wp Tryz.prog Q ⟨#[Z0,Z1,Z2,.pointer (some ⟨bt, 0, none⟩),Z4,Z5,Z6,.pointer (some ⟨br, 0, none⟩),.slice SA ts.length sc,.int .i64 lo,.int .i64 hh,.int .i64 i,Zc,.int .i64 k,.int .i64 o,Zf,Zg,Zh,Zi,Zj,Zk,Zl,Zm,Zn,Zo,Zp,Zq,Zr,Zs,Zt,Zu,Zv,Zw,Zx,Zy,Zz,Z10,Z11,Z12,Z13,Z14,Z15,Z16,Z17,Z18,Z19,Z1a,Z1b,Z1c,Z1d,Z1e,Z1f,Z1g,Z1h,Z1i,Z1j,Z1k,Z1l,Z1m,Z1n,Z1o,Z1p,Z1q,Z1r,Z1s,Z1t,Z1u,Z1v,Z1w,Z1x,Z1y,Z1z,Z20,Z21,Z22,Z23,Z24,Z25,Z26,Z27,Z28,Z29,Z2a,Z2b,Z2c,Z2d,Z2e,Z2f,Z2g,Z2h,Z2i,Z2j,Z2k,Z2l,Z2m,Z2n,Z2o,Z2p,Z2q,Z2r,Z2s,Z2t,Z2u,Z2v,Z2w,Z2x,Z2y,Z2z,Z30,Z31,Z32,Z33,Z34,Z35,Z36,Z37,Z38,Z39,Z3a,Z3b,Z3c,Z3d,Z3e,Z3f,Z3g,Z3h,Z3i,Z3j,Z3k,Z3l,Z3m,Z3n,Z3o,Z3p,Z3q,Z3r,Z3s,Z3t,Z3u,Z3v,Z3w,Z3x,Z3y,Z3z,Z40,Z41,Z42,Z43,Z44,Z45,Z46,Z47], dl⟩ X := by
 rw [show (Tryz.f27.body.bind (regionOf 14)) = some (Code.region 14 _ true) from rfl] at hcd
 obtain rfl := Option.some.inj hcd
 clear hcd
 dsimp only at hQ ⊢
 obtain ⟨c0, c1, c2, c3⟩ := tb.box.c4
 have lt0 := tb.box.lt
 have x0 : (0 : Int) ≤ (i : Int) := by omega
 have x1 : (i : Int) < (ts.length : Int) := by omega
 have x2 : (0 : Int) ≤ (k : Int) := by omega
 have x3 : (k : Int) < (ts.length : Int) := by omega
 obtain ⟨l1, hl1, lB1, a0, a1, a2, a3, a4, a5, a6, a7⟩ := hL.st8 hi
 obtain ⟨l2, hl2, lB2, b0, b1, b2, b3, b4, b5, b6, b7⟩ := hL.st8 hk
 obtain rfl : l1 = l2 := Option.some.inj (hl1.symm.trans hl2)
 clear hl2
 have hoa := Lib.hid (hok i hi)
 have hob := Lib.hid (hok k hk)
 have hPa := hP.at_ hi
 have hPb := hP.at_ hk
 have k1 : Hid (∀ u : Kept X.heap.size X, Calls Tryz.prog 23 #[tv W H GA PA G.length gc P.length pc, stv ts[i].s ts[i].A ts[i].c, stv ts[k].s ts[k].A ts[k].c, .int .i64 o] u.val fun e w' => e = .returned (.bool (M.forb W H G P ts[i].s ts[k].s o)) ∧ Below u.val.heap.size u.val w') := Lib.hid (fun u => rForb16_ok W H GA PA gc pc G P ts[i].s ts[k].s ts[i].A ts[k].A ts[i].c ts[k].c o u.val ((tb.g.below u.h).more u.h.size) ((tb.p.below u.h).more u.h.size) ((hPa.below u.h).more u.h.size) ((hPb.below u.h).more u.h.size) hoa.out hob.out ho)
 clear hPa hPb hP hok tb ho
 generalize hfb : M.forb W H G P ts[i].s ts[k].s o = fb at *
 clear hfb
 generalize ts[i] = x at *
 generalize ts[k] = y at *
 subst hl1
 refine wp_region_kept X.heap.size X (by kernel_rfl) (by kernel_rfl) (Below.refl _ _) ?_
 repeat (go_big_quiet_step ((go_at_call 23; exact Kept.calls (Nat.le_refl _) (k1.out _))))
 refine wpQuiet_nil ?_
 rintro w5 ⟨⟨w5x, hb5⟩, hw5⟩
 dsimp only at hw5
 subst hw5
 exact hQ _ _ _ _ _ _ _ _ _ _ _ fb rfl hb5
set_option maxHeartbeats 32000000 in
theorem b16_n {Q : Exit → Act → World → Prop} {cd : Code} {dl : List Deferred} {Z0 Z1 Z2 Z4 Z5 Z6 Zc Ze Zf Zg Zh Zi Zj Zk Zl Zm Zn Zo Zp Zq Zr Zs Zt Zu Zv Zw Zx Zy Zz Z10 Z11 Z12 Z13 Z14 Z15 Z16 Z17 Z18 Z19 Z1a Z1b Z1c Z1d Z1e Z1f Z1g Z1h Z1i Z1j Z1k Z1l Z1m Z1n Z1o Z1p Z1q Z1r Z1s Z1t Z1u Z1v Z1w Z1x Z1y Z1z Z20 Z21 Z22 Z23 Z24 Z25 Z26 Z27 Z28 Z29 Z2a Z2b Z2c Z2d Z2e Z2f Z2g Z2h Z2i Z2j Z2k Z2l Z2m Z2n Z2o Z2p Z2q Z2r Z2s Z2t Z2u Z2v Z2w Z2x Z2y Z2z Z30 Z31 Z32 Z33 Z34 Z35 Z36 Z37 Z38 Z39 Z3a Z3b Z3c Z3d Z3e Z3f Z3g Z3h Z3i Z3j Z3k Z3l Z3m Z3n Z3o Z3p Z3q Z3r Z3s Z3t Z3u Z3v Z3w Z3x Z3y Z3z Z40 Z41 Z42 Z43 Z44 Z45 Z46 Z47 : Value} (W H : Int) (GA PA : Option Addr) (gc pc : Nat) (G P : List Int) (SA : Option Addr) (sc : Nat) (ts : List SE) (lo hh : Int) (X : World) (bt br i k : Nat) (tb : TB6 X bt W H GA PA gc pc G P) (hL : Sl 8 secell X X.heap.size SA ts) (hP : Pats X ts) (hok : ∀ j (hj : j < ts.length), M.okS W H G P ts[j].s = true) (hi : i < ts.length) (hk : k < ts.length) (hcd : (Tryz.f27.body.bind (regionOf 16)) = some cd)
  (hQ : ∀ (y82 y83 y84 y85 y86 y87 y88 y89 y90 y91 y92 y93 y94 y95 y96 : Value) (wo : World) (r : Bool), r = (decide (i ≠ k) && !M.forb W H G P ts[i].s ts[k].s 0) → Below X.heap.size X wo → Q .normal ⟨#[Z0,Z1,Z2,.pointer (some ⟨bt, 0, none⟩),Z4,Z5,Z6,.pointer (some ⟨br, 0, none⟩),.slice SA ts.length sc,.int .i64 lo,.int .i64 hh,.int .i64 i,Zc,.int .i64 k,Ze,Zf,Zg,Zh,Zi,Zj,Zk,Zl,Zm,Zn,Zo,Zp,Zq,Zr,Zs,Zt,Zu,Zv,Zw,Zx,Zy,Zz,Z10,Z11,Z12,Z13,Z14,Z15,Z16,Z17,Z18,Z19,Z1a,Z1b,Z1c,Z1d,Z1e,Z1f,Z1g,Z1h,Z1i,Z1j,Z1k,Z1l,Z1m,Z1n,Z1o,Z1p,Z1q,Z1r,Z1s,Z1t,Z1u,Z1v,Z1w,Z1x,Z1y,Z1z,Z20,Z21,Z22,Z23,Z24,Z25,Z26,Z27,Z28,Z29,y82,y83,y84,y85,y86,y87,y88,y89,y90,y91,y92,y93,y94,y95,y96,.bool r,Z2q,Z2r,Z2s,Z2t,Z2u,Z2v,Z2w,Z2x,Z2y,Z2z,Z30,Z31,Z32,Z33,Z34,Z35,Z36,Z37,Z38,Z39,Z3a,Z3b,Z3c,Z3d,Z3e,Z3f,Z3g,Z3h,Z3i,Z3j,Z3k,Z3l,Z3m,Z3n,Z3o,Z3p,Z3q,Z3r,Z3s,Z3t,Z3u,Z3v,Z3w,Z3x,Z3y,Z3z,Z40,Z41,Z42,Z43,Z44,Z45,Z46,Z47], dl⟩ wo) :
  cd.wp Tryz.prog Q ⟨#[Z0,Z1,Z2,.pointer (some ⟨bt, 0, none⟩),Z4,Z5,Z6,.pointer (some ⟨br, 0, none⟩),.slice SA ts.length sc,.int .i64 lo,.int .i64 hh,.int .i64 i,Zc,.int .i64 k,Ze,Zf,Zg,Zh,Zi,Zj,Zk,Zl,Zm,Zn,Zo,Zp,Zq,Zr,Zs,Zt,Zu,Zv,Zw,Zx,Zy,Zz,Z10,Z11,Z12,Z13,Z14,Z15,Z16,Z17,Z18,Z19,Z1a,Z1b,Z1c,Z1d,Z1e,Z1f,Z1g,Z1h,Z1i,Z1j,Z1k,Z1l,Z1m,Z1n,Z1o,Z1p,Z1q,Z1r,Z1s,Z1t,Z1u,Z1v,Z1w,Z1x,Z1y,Z1z,Z20,Z21,Z22,Z23,Z24,Z25,Z26,Z27,Z28,Z29,Z2a,Z2b,Z2c,Z2d,Z2e,Z2f,Z2g,Z2h,Z2i,Z2j,Z2k,Z2l,Z2m,Z2n,Z2o,Z2p,Z2q,Z2r,Z2s,Z2t,Z2u,Z2v,Z2w,Z2x,Z2y,Z2z,Z30,Z31,Z32,Z33,Z34,Z35,Z36,Z37,Z38,Z39,Z3a,Z3b,Z3c,Z3d,Z3e,Z3f,Z3g,Z3h,Z3i,Z3j,Z3k,Z3l,Z3m,Z3n,Z3o,Z3p,Z3q,Z3r,Z3s,Z3t,Z3u,Z3v,Z3w,Z3x,Z3y,Z3z,Z40,Z41,Z42,Z43,Z44,Z45,Z46,Z47], dl⟩ X := by
 rw [show (Tryz.f27.body.bind (regionOf 16)) = some (Code.region 16 _ true) from rfl] at hcd
 obtain rfl := Option.some.inj hcd
 clear hcd
 dsimp only at hQ ⊢
 obtain ⟨c0, c1, c2, c3⟩ := tb.box.c4
 have lt0 := tb.box.lt
 have x0 : (0 : Int) ≤ (i : Int) := by omega
 have x1 : (i : Int) < (ts.length : Int) := by omega
 by_cases e : i = k
 case pos =>
  have q1 : ((i : Int) != (k : Int)) = false := by simp; omega
  have q2 : (i != k) = false := by simp; omega
  have HE := Lib.hid e
  clear e hL hP hok
  refine wp_region_kept X.heap.size X (by kernel_rfl) (by kernel_rfl) (Below.refl _ _) ?_
  repeat (go_big_quiet_step (fail))
  refine wpQuiet_nil ?_
  rintro w5 ⟨⟨w5x, hb5⟩, hw5⟩
  dsimp only at hw5
  subst hw5
  exact hQ _ _ _ _ _ _ _ _ _ _ _ _ _ _ _ _ false (by rw [decide_eq_false (fun h => h HE.out)]; rfl) hb5
 have q1 : ((i : Int) != (k : Int)) = true := by simp; omega
 have q2 : (i != k) = true := by simp; omega
 have HE := Lib.hid e
 clear e
 have x2 : (0 : Int) ≤ (k : Int) := by omega
 have x3 : (k : Int) < (ts.length : Int) := by omega
 obtain ⟨l1, hl1, lB1, a0, a1, a2, a3, a4, a5, a6, a7⟩ := hL.st8 hi
 obtain ⟨l2, hl2, lB2, b0, b1, b2, b3, b4, b5, b6, b7⟩ := hL.st8 hk
 obtain rfl : l1 = l2 := Option.some.inj (hl1.symm.trans hl2)
 clear hl2
 have hoa := Lib.hid (hok i hi)
 have hob := Lib.hid (hok k hk)
 have hPa := hP.at_ hi
 have hPb := hP.at_ hk
 have k1 : Hid (∀ u : Kept X.heap.size X, Calls Tryz.prog 23 #[tv W H GA PA G.length gc P.length pc, stv ts[i].s ts[i].A ts[i].c, stv ts[k].s ts[k].A ts[k].c, .int .i64 0] u.val fun e w' => e = .returned (.bool (M.forb W H G P ts[i].s ts[k].s 0)) ∧ Below u.val.heap.size u.val w') := Lib.hid (fun u => rForb16_ok W H GA PA gc pc G P ts[i].s ts[k].s ts[i].A ts[k].A ts[i].c ts[k].c 0 u.val ((tb.g.below u.h).more u.h.size) ((tb.p.below u.h).more u.h.size) ((hPa.below u.h).more u.h.size) ((hPb.below u.h).more u.h.size) hoa.out hob.out ⟨by omega, by omega⟩)
 clear hPa hPb hP hok tb
 generalize hfb : M.forb W H G P ts[i].s ts[k].s 0 = fb at *
 clear hfb
 generalize ts[i] = x at *
 generalize ts[k] = y at *
 subst hl1
 refine wp_region_kept X.heap.size X (by kernel_rfl) (by kernel_rfl) (Below.refl _ _) ?_
 repeat (go_big_quiet_step ((go_at_call 23; exact Kept.calls (Nat.le_refl _) (k1.out _))))
 refine wpQuiet_nil ?_
 rintro w5 ⟨⟨w5x, hb5⟩, hw5⟩
 dsimp only at hw5
 subst hw5
 exact hQ _ _ _ _ _ _ _ _ _ _ _ _ _ _ _ _ (!fb) (by rw [decide_eq_true HE.out]; rfl) hb5
set_option maxHeartbeats 32000000 in
theorem b16_l {Q : Exit → Act → World → Prop} {cd : Code} {dl : List Deferred} {Z0 Z1 Z2 Z4 Z5 Z6 Zc Ze Zf Zg Zh Zi Zj Zk Zl Zm Zn Zo Zp Zq Zr Zs Zt Zu Zv Zw Zx Zy Zz Z10 Z11 Z12 Z13 Z14 Z15 Z16 Z17 Z18 Z19 Z1a Z1b Z1c Z1d Z1e Z1f Z1g Z1h Z1i Z1j Z1k Z1l Z1m Z1n Z1o Z1p Z1q Z1r Z1s Z1t Z1u Z1v Z1w Z1x Z1y Z1z Z20 Z21 Z22 Z23 Z24 Z25 Z26 Z27 Z28 Z29 Z2a Z2b Z2c Z2d Z2e Z2f Z2g Z2h Z2i Z2j Z2k Z2l Z2m Z2n Z2o Z2p Z2q Z2r Z2s Z2t Z2u Z2v Z2w Z2x Z2y Z2z Z30 Z31 Z32 Z33 Z34 Z35 Z36 Z37 Z38 Z39 Z3a Z3b Z3c Z3d Z3e Z3f Z3g Z3h Z3i Z3j Z3k Z3l Z3m Z3n Z3o Z3p Z3q Z3r Z3s Z3t Z3u Z3v Z3w Z3x Z3y Z3z Z40 Z41 Z42 Z43 Z44 Z45 Z46 Z47 : Value} (W H : Int) (GA PA : Option Addr) (gc pc : Nat) (G P : List Int) (SA : Option Addr) (sc : Nat) (ts : List SE) (lo hh : Int) (X : World) (bt br i k : Nat) (tb : TB6 X bt W H GA PA gc pc G P) (hL : Sl 8 secell X X.heap.size SA ts) (hP : Pats X ts) (hok : ∀ j (hj : j < ts.length), M.okS W H G P ts[j].s = true) (hi : i < ts.length) (hk : k < ts.length) (hcd : (Tryz.f27.body.bind (regionOf 17)) = some cd)
  (hQ : ∀ (y98 y99 y100 y101 y102 y103 y104 y105 y106 : Value) (wo : World) (r : Int), r = M.ls0 W H G P ts[i].s ts[k].s → Below X.heap.size X wo → Q .normal ⟨#[Z0,Z1,Z2,.pointer (some ⟨bt, 0, none⟩),Z4,Z5,Z6,.pointer (some ⟨br, 0, none⟩),.slice SA ts.length sc,.int .i64 lo,.int .i64 hh,.int .i64 i,Zc,.int .i64 k,Ze,.int .i64 r,Zg,Zh,Zi,Zj,Zk,Zl,Zm,Zn,Zo,Zp,Zq,Zr,Zs,Zt,Zu,Zv,Zw,Zx,Zy,Zz,Z10,Z11,Z12,Z13,Z14,Z15,Z16,Z17,Z18,Z19,Z1a,Z1b,Z1c,Z1d,Z1e,Z1f,Z1g,Z1h,Z1i,Z1j,Z1k,Z1l,Z1m,Z1n,Z1o,Z1p,Z1q,Z1r,Z1s,Z1t,Z1u,Z1v,Z1w,Z1x,Z1y,Z1z,Z20,Z21,Z22,Z23,Z24,Z25,Z26,Z27,Z28,Z29,Z2a,Z2b,Z2c,Z2d,Z2e,Z2f,Z2g,Z2h,Z2i,Z2j,Z2k,Z2l,Z2m,Z2n,Z2o,Z2p,y98,y99,y100,y101,y102,y103,y104,y105,y106,.int .i64 r,Z30,Z31,Z32,Z33,Z34,Z35,Z36,Z37,Z38,Z39,Z3a,Z3b,Z3c,Z3d,Z3e,Z3f,Z3g,Z3h,Z3i,Z3j,Z3k,Z3l,Z3m,Z3n,Z3o,Z3p,Z3q,Z3r,Z3s,Z3t,Z3u,Z3v,Z3w,Z3x,Z3y,Z3z,Z40,Z41,Z42,Z43,Z44,Z45,Z46,Z47], dl⟩ wo) :
  cd.wp Tryz.prog Q ⟨#[Z0,Z1,Z2,.pointer (some ⟨bt, 0, none⟩),Z4,Z5,Z6,.pointer (some ⟨br, 0, none⟩),.slice SA ts.length sc,.int .i64 lo,.int .i64 hh,.int .i64 i,Zc,.int .i64 k,Ze,Zf,Zg,Zh,Zi,Zj,Zk,Zl,Zm,Zn,Zo,Zp,Zq,Zr,Zs,Zt,Zu,Zv,Zw,Zx,Zy,Zz,Z10,Z11,Z12,Z13,Z14,Z15,Z16,Z17,Z18,Z19,Z1a,Z1b,Z1c,Z1d,Z1e,Z1f,Z1g,Z1h,Z1i,Z1j,Z1k,Z1l,Z1m,Z1n,Z1o,Z1p,Z1q,Z1r,Z1s,Z1t,Z1u,Z1v,Z1w,Z1x,Z1y,Z1z,Z20,Z21,Z22,Z23,Z24,Z25,Z26,Z27,Z28,Z29,Z2a,Z2b,Z2c,Z2d,Z2e,Z2f,Z2g,Z2h,Z2i,Z2j,Z2k,Z2l,Z2m,Z2n,Z2o,Z2p,Z2q,Z2r,Z2s,Z2t,Z2u,Z2v,Z2w,Z2x,Z2y,Z2z,Z30,Z31,Z32,Z33,Z34,Z35,Z36,Z37,Z38,Z39,Z3a,Z3b,Z3c,Z3d,Z3e,Z3f,Z3g,Z3h,Z3i,Z3j,Z3k,Z3l,Z3m,Z3n,Z3o,Z3p,Z3q,Z3r,Z3s,Z3t,Z3u,Z3v,Z3w,Z3x,Z3y,Z3z,Z40,Z41,Z42,Z43,Z44,Z45,Z46,Z47], dl⟩ X := by
 rw [show (Tryz.f27.body.bind (regionOf 17)) = some (Code.region 17 _ true) from rfl] at hcd
 obtain rfl := Option.some.inj hcd
 clear hcd
 dsimp only at hQ ⊢
 obtain ⟨c0, c1, c2, c3⟩ := tb.box.c4
 have lt0 := tb.box.lt
 have x0 : (0 : Int) ≤ (i : Int) := by omega
 have x1 : (i : Int) < (ts.length : Int) := by omega
 have x2 : (0 : Int) ≤ (k : Int) := by omega
 have x3 : (k : Int) < (ts.length : Int) := by omega
 obtain ⟨l1, hl1, lB1, a0, a1, a2, a3, a4, a5, a6, a7⟩ := hL.st8 hi
 obtain ⟨l2, hl2, lB2, b0, b1, b2, b3, b4, b5, b6, b7⟩ := hL.st8 hk
 obtain rfl : l1 = l2 := Option.some.inj (hl1.symm.trans hl2)
 clear hl2
 have hoa := Lib.hid (hok i hi)
 have hob := Lib.hid (hok k hk)
 have hPa := hP.at_ hi
 have hPb := hP.at_ hk
 have k1 : Hid (∀ u : Kept X.heap.size X, Calls Tryz.prog 69 #[tv W H GA PA G.length gc P.length pc, stv ts[i].s ts[i].A ts[i].c, stv ts[k].s ts[k].A ts[k].c, .int .i64 0] u.val fun e w' => e = .returned (.int .i64 (M.ls0 W H G P ts[i].s ts[k].s)) ∧ Below u.val.heap.size u.val w') := Lib.hid (fun u => loses16_ok W H GA PA gc pc G P ts[i].s ts[k].s ts[i].A ts[k].A ts[i].c ts[k].c 0 u.val ((tb.g.below u.h).more u.h.size) ((tb.p.below u.h).more u.h.size) ((hPa.below u.h).more u.h.size) ((hPb.below u.h).more u.h.size) hoa.out hob.out)
 clear hPa hPb hP hok tb
 generalize hfb : M.ls0 W H G P ts[i].s ts[k].s = fb at *
 clear hfb
 generalize ts[i] = x at *
 generalize ts[k] = y at *
 subst hl1
 refine wp_region_kept X.heap.size X (by kernel_rfl) (by kernel_rfl) (Below.refl _ _) ?_
 repeat (go_big_quiet_step ((go_at_call 69; exact Kept.calls (Nat.le_refl _) (k1.out _))))
 refine wpQuiet_nil ?_
 rintro w5 ⟨⟨w5x, hb5⟩, hw5⟩
 dsimp only at hw5
 subst hw5
 exact hQ _ _ _ _ _ _ _ _ _ _ fb rfl hb5
end Go.Proofs.YtciolgmljpamlaaGreatDoor
end
