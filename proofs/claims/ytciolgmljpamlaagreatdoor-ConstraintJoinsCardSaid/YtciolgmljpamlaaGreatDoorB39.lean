/- A bundle of texts: Rf10b, Rf10c. -/
import Derived.Test.YtciolgmljpamlaaGreatDoorB38
section
namespace Go.Proofs.YtciolgmljpamlaaGreatDoor
open Go Go.RowKit
set_option maxRecDepth 100000
set_option maxHeartbeats 32000000 in
theorem j16_a1 {Q : Exit → Act → World → Prop} {cd : Code} {dl : List Deferred} {Z0 Z1 Z4 Z5 Z9 Za Zb Zc Zd Ze Zf Zg Zh Zi Zj Zk Zl Zm Zn Zo Zp Zq Zr Zs Zt Zu Zv Zw Zx Zy Zz Z10 Z11 Z12 Z13 Z14 Z15 Z16 Z17 Z18 Z19 Z1a Z1b Z1c Z1d Z1e Z1f Z1g Z1h Z1i Z1j Z1k Z1l Z1m Z1n Z1o Z1p Z1q Z1r Z1s Z1t Z1u Z1v Z1w Z1x Z1y Z1z Z20 Z21 Z22 Z23 Z24 Z25 Z26 Z27 Z28 Z29 Z2a Z2b Z2c Z2d Z2e Z2f Z2g Z2h Z2i Z2j Z2k Z2l Z2m Z2n Z2o Z2p Z2q Z2r Z2s Z2t Z2u Z2v Z2w Z2x Z2y Z2z Z30 Z31 Z32 Z33 Z34 Z35 Z36 Z37 Z38 Z39 Z3a Z3b Z3c Z3d Z3e Z3f Z3g Z3h Z3i Z3j Z3k Z3l Z3m Z3n Z3o Z3p Z3q Z3r Z3s Z3t Z3u Z3v Z3w Z3x Z3y Z3z Z40 Z41 Z42 Z43 Z44 Z45 Z46 Z47 Z48 Z49 Z4a Z4b Z4c Z4d Z4e Z4f Z4g Z4h Z4i Z4j Z4k Z4l Z4m Z4n Z4o Z4p Z4q Z4r Z4s Z4t Z4u Z4v Z4w Z4x Z4y Z4z Z50 Z51 Z52 Z53 Z54 Z55 Z56 Z57 Z58 Z59 Z5a Z5b Z5c Z5d Z5e Z5f Z5g Z5h Z5i Z5j Z5k Z5l Z5m Z5n Z5o Z5p Z5q Z5r Z5s Z5t Z5u Z5v Z5w Z5x Z5y Z5z Z60 Z61 Z62 Z63 Z64 Z65 Z66 Z67 Z68 Z69 Z6a Z6b Z6c Z6d Z6e Z6f Z6g Z6h Z6i Z6j Z6k Z6l Z6m Z6n Z6o Z6p Z6q Z6r Z6s Z6t Z6u Z6v Z6w Z6x Z6y Z6z Z70 Z71 Z72 Z73 Z74 Z75 Z76 Z77 Z78 Z79 Z7a Z7b Z7c Z7d Z7e Z7f Z7g Z7h Z7i Z7j Z7k Z7l Z7m Z7n Z7o Z7p Z7q Z7r Z7s Z7t Z7u Z7v Z7w Z7x Z7y Z7z Z80 Z81 Z82 Z83 Z84 Z85 Z86 Z87 Z88 Z89 Z8a Z8b Z8c Z8d Z8e Z8f Z8g Z8h Z8i Z8j Z8k Z8l Z8m Z8n Z8o Z8p : Value} (XA YA ZA XB YB ZB : Option Addr) (xc yc zc xd yd zd : Nat) (a1 a2 : List P5) (a3 : List P4) (b1 b2 : List P5) (b3 : List P4) (X : World) (ba bb br i k : Nat) (xa : Box X ba #[.slice XA a1.length xc, .slice YA a2.length yc, .slice ZA a3.length zc] 30) (xb : Box X bb #[.slice XB b1.length xd, .slice YB b2.length yd, .slice ZB b3.length zd] 30) (hA : Sl 5 p5cell X X.heap.size YA a2) (hB : Sl 5 p5cell X X.heap.size YB b2) (hi0 : i ≤ a2.length) (hk0 : k ≤ b2.length) (hcd : (Tryz.f29.body.bind (regionOf 14)) = some cd)
  (hQ : ∀ (y140 y141 y142 y143 y144 y145 y146 y147 y148 y149 y150 y151 y152 y153 y154 y155 y156 y157 y158 y159 y160 y161 y162 y163 y164 y165 : Value) (wo : World) (r : Bool), r = M.takeB M.ls5 a2 b2 i k → Below X.heap.size X wo → Q .normal ⟨#[Z0,Z1,.pointer (some ⟨ba, 0, none⟩),.pointer (some ⟨bb, 0, none⟩),Z4,Z5,.pointer (some ⟨br, 0, none⟩),.int .i64 i,.int .i64 k,Z9,Za,Zb,Zc,Zd,Ze,Zf,Zg,Zh,Zi,Zj,Zk,Zl,Zm,Zn,Zo,Zp,Zq,Zr,Zs,Zt,Zu,Zv,Zw,Zx,Zy,Zz,Z10,Z11,Z12,Z13,Z14,Z15,Z16,Z17,Z18,Z19,Z1a,Z1b,Z1c,Z1d,Z1e,Z1f,Z1g,Z1h,Z1i,Z1j,Z1k,Z1l,Z1m,Z1n,Z1o,Z1p,Z1q,Z1r,Z1s,Z1t,Z1u,Z1v,Z1w,Z1x,Z1y,Z1z,Z20,Z21,Z22,Z23,Z24,Z25,Z26,Z27,Z28,Z29,Z2a,Z2b,Z2c,Z2d,Z2e,Z2f,Z2g,Z2h,Z2i,Z2j,Z2k,Z2l,Z2m,Z2n,Z2o,Z2p,Z2q,Z2r,Z2s,Z2t,Z2u,Z2v,Z2w,Z2x,Z2y,Z2z,Z30,Z31,Z32,Z33,Z34,Z35,Z36,Z37,Z38,Z39,Z3a,Z3b,Z3c,Z3d,Z3e,Z3f,Z3g,Z3h,Z3i,Z3j,Z3k,Z3l,Z3m,Z3n,Z3o,Z3p,Z3q,Z3r,Z3s,Z3t,Z3u,.bool r,y140,y141,y142,y143,y144,y145,y146,y147,y148,y149,y150,y151,y152,y153,y154,y155,y156,y157,y158,y159,y160,y161,y162,y163,y164,y165,.bool r,Z4n,Z4o,Z4p,Z4q,Z4r,Z4s,Z4t,Z4u,Z4v,Z4w,Z4x,Z4y,Z4z,Z50,Z51,Z52,Z53,Z54,Z55,Z56,Z57,Z58,Z59,Z5a,Z5b,Z5c,Z5d,Z5e,Z5f,Z5g,Z5h,Z5i,Z5j,Z5k,Z5l,Z5m,Z5n,Z5o,Z5p,Z5q,Z5r,Z5s,Z5t,Z5u,Z5v,Z5w,Z5x,Z5y,Z5z,Z60,Z61,Z62,Z63,Z64,Z65,Z66,Z67,Z68,Z69,Z6a,Z6b,Z6c,Z6d,Z6e,Z6f,Z6g,Z6h,Z6i,Z6j,Z6k,Z6l,Z6m,Z6n,Z6o,Z6p,Z6q,Z6r,Z6s,Z6t,Z6u,Z6v,Z6w,Z6x,Z6y,Z6z,Z70,Z71,Z72,Z73,Z74,Z75,Z76,Z77,Z78,Z79,Z7a,Z7b,Z7c,Z7d,Z7e,Z7f,Z7g,Z7h,Z7i,Z7j,Z7k,Z7l,Z7m,Z7n,Z7o,Z7p,Z7q,Z7r,Z7s,Z7t,Z7u,Z7v,Z7w,Z7x,Z7y,Z7z,Z80,Z81,Z82,Z83,Z84,Z85,Z86,Z87,Z88,Z89,Z8a,Z8b,Z8c,Z8d,Z8e,Z8f,Z8g,Z8h,Z8i,Z8j,Z8k,Z8l,Z8m,Z8n,Z8o,Z8p], dl⟩ wo) :
  cd.wp Tryz.prog Q ⟨#[Z0,Z1,.pointer (some ⟨ba, 0, none⟩),.pointer (some ⟨bb, 0, none⟩),Z4,Z5,.pointer (some ⟨br, 0, none⟩),.int .i64 i,.int .i64 k,Z9,Za,Zb,Zc,Zd,Ze,Zf,Zg,Zh,Zi,Zj,Zk,Zl,Zm,Zn,Zo,Zp,Zq,Zr,Zs,Zt,Zu,Zv,Zw,Zx,Zy,Zz,Z10,Z11,Z12,Z13,Z14,Z15,Z16,Z17,Z18,Z19,Z1a,Z1b,Z1c,Z1d,Z1e,Z1f,Z1g,Z1h,Z1i,Z1j,Z1k,Z1l,Z1m,Z1n,Z1o,Z1p,Z1q,Z1r,Z1s,Z1t,Z1u,Z1v,Z1w,Z1x,Z1y,Z1z,Z20,Z21,Z22,Z23,Z24,Z25,Z26,Z27,Z28,Z29,Z2a,Z2b,Z2c,Z2d,Z2e,Z2f,Z2g,Z2h,Z2i,Z2j,Z2k,Z2l,Z2m,Z2n,Z2o,Z2p,Z2q,Z2r,Z2s,Z2t,Z2u,Z2v,Z2w,Z2x,Z2y,Z2z,Z30,Z31,Z32,Z33,Z34,Z35,Z36,Z37,Z38,Z39,Z3a,Z3b,Z3c,Z3d,Z3e,Z3f,Z3g,Z3h,Z3i,Z3j,Z3k,Z3l,Z3m,Z3n,Z3o,Z3p,Z3q,Z3r,Z3s,Z3t,Z3u,Z3v,Z3w,Z3x,Z3y,Z3z,Z40,Z41,Z42,Z43,Z44,Z45,Z46,Z47,Z48,Z49,Z4a,Z4b,Z4c,Z4d,Z4e,Z4f,Z4g,Z4h,Z4i,Z4j,Z4k,Z4l,Z4m,Z4n,Z4o,Z4p,Z4q,Z4r,Z4s,Z4t,Z4u,Z4v,Z4w,Z4x,Z4y,Z4z,Z50,Z51,Z52,Z53,Z54,Z55,Z56,Z57,Z58,Z59,Z5a,Z5b,Z5c,Z5d,Z5e,Z5f,Z5g,Z5h,Z5i,Z5j,Z5k,Z5l,Z5m,Z5n,Z5o,Z5p,Z5q,Z5r,Z5s,Z5t,Z5u,Z5v,Z5w,Z5x,Z5y,Z5z,Z60,Z61,Z62,Z63,Z64,Z65,Z66,Z67,Z68,Z69,Z6a,Z6b,Z6c,Z6d,Z6e,Z6f,Z6g,Z6h,Z6i,Z6j,Z6k,Z6l,Z6m,Z6n,Z6o,Z6p,Z6q,Z6r,Z6s,Z6t,Z6u,Z6v,Z6w,Z6x,Z6y,Z6z,Z70,Z71,Z72,Z73,Z74,Z75,Z76,Z77,Z78,Z79,Z7a,Z7b,Z7c,Z7d,Z7e,Z7f,Z7g,Z7h,Z7i,Z7j,Z7k,Z7l,Z7m,Z7n,Z7o,Z7p,Z7q,Z7r,Z7s,Z7t,Z7u,Z7v,Z7w,Z7x,Z7y,Z7z,Z80,Z81,Z82,Z83,Z84,Z85,Z86,Z87,Z88,Z89,Z8a,Z8b,Z8c,Z8d,Z8e,Z8f,Z8g,Z8h,Z8i,Z8j,Z8k,Z8l,Z8m,Z8n,Z8o,Z8p], dl⟩ X := by
 rw [show (Tryz.f29.body.bind (regionOf 14)) = some (Code.region 14 _ true) from rfl] at hcd
 obtain rfl := Option.some.inj hcd
 clear hcd
 dsimp only at hQ ⊢
 obtain ⟨p0, p1, p2⟩ := xa.c3
 obtain ⟨q0, q1, q2⟩ := xb.c3
 have la0 := xa.lt
 have lb0 := xb.lt
 have z0 : (0 : Int) ≤ (i : Int) := by omega
 have z1 : (0 : Int) ≤ (k : Int) := by omega
 by_cases hi : i < a2.length
 case neg =>
  have HF := Lib.hid (M.takeB_hi (f := M.ls5) (b := b2) (k := k) hi)
  have qe : ((i : Int) == (a2.length : Int)) = true := by simp; omega
  have qe' : (i == a2.length) = true := by simp; omega
  clear hi hA hB
  refine wp_region_kept X.heap.size X (by kernel_rfl) (by kernel_rfl) (Below.refl _ _) ?_
  repeat (go_big_quiet_step (fail))
  refine wpQuiet_nil ?_
  rintro w5 ⟨⟨w5x, hb5⟩, hw5⟩
  dsimp only at hw5
  subst hw5
  exact hQ _ _ _ _ _ _ _ _ _ _ _ _ _ _ _ _ _ _ _ _ _ _ _ _ _ _ _ true HF.out.symm hb5
 have qe : ((i : Int) == (a2.length : Int)) = false := by simp; omega
 have qe' : (i == a2.length) = false := by simp; omega
 by_cases hk : k < b2.length
 case neg =>
  have HF := Lib.hid (M.takeB_no (f := M.ls5) hi hk)
  have qk : decide ((k : Int) < (b2.length : Int)) = false := decide_eq_false (by omega)
  have qk' : decide (k < b2.length) = false := decide_eq_false hk
  clear hi hk hA hB
  refine wp_region_kept X.heap.size X (by kernel_rfl) (by kernel_rfl) (Below.refl _ _) ?_
  repeat (go_big_quiet_step (fail))
  refine wpQuiet_nil ?_
  rintro w5 ⟨⟨w5x, hb5⟩, hw5⟩
  dsimp only at hw5
  subst hw5
  exact hQ _ _ _ _ _ _ _ _ _ _ _ _ _ _ _ _ _ _ _ _ _ _ _ _ _ _ _ false HF.out.symm hb5
 have qk : decide ((k : Int) < (b2.length : Int)) = true := decide_eq_true (by omega)
 have qk' : decide (k < b2.length) = true := decide_eq_true hk
 have g1 : (k : Int) < (b2.length : Int) := by omega
 have g2 : (i : Int) < (a2.length : Int) := by omega
 obtain ⟨la, hla, laB, ex0, hq⟩ := hA.sp (by decide) hi
 have ex1 := hq 1 (by decide) (by decide)
 have ex2 := hq 2 (by decide) (by decide)
 have ex3 := hq 3 (by decide) (by decide)
 have ex4 := hq 4 (by decide) (by decide)
 clear hq
 obtain ⟨lb, hlb, lbB, ey0, hq⟩ := hB.sp (by decide) hk
 have ey1 := hq 1 (by decide) (by decide)
 have ey2 := hq 2 (by decide) (by decide)
 have ey3 := hq 3 (by decide) (by decide)
 have ey4 := hq 4 (by decide) (by decide)
 clear hq
 have HT := Lib.hid (M.takeB_at (f := M.ls5) hi hk)
 obtain ⟨x, hx⟩ : ∃ x, a2[i] = x := ⟨_, rfl⟩
 rw [hx] at ex0 ex1 ex2 ex3 ex4 HT
 clear hx
 replace ex0 : X.cell? (la.add (i * 5)) = some (.int .i64 x.a) := ex0
 replace ex1 : X.cell? (⟨(la.add (i * 5)).block, (la.add (i * 5)).off + 1, none⟩) = some (.int .i64 x.b) := ex1
 replace ex2 : X.cell? (⟨(la.add (i * 5)).block, (la.add (i * 5)).off + 2, none⟩) = some (.int .i64 x.c) := ex2
 replace ex3 : X.cell? (⟨(la.add (i * 5)).block, (la.add (i * 5)).off + 3, none⟩) = some (.int .i64 x.d) := ex3
 replace ex4 : X.cell? (⟨(la.add (i * 5)).block, (la.add (i * 5)).off + 4, none⟩) = some (.int .i64 x.e) := ex4
 obtain ⟨y, hy⟩ : ∃ x, b2[k] = x := ⟨_, rfl⟩
 rw [hy] at ey0 ey1 ey2 ey3 ey4 HT
 clear hy
 replace ey0 : X.cell? (lb.add (k * 5)) = some (.int .i64 y.a) := ey0
 replace ey1 : X.cell? (⟨(lb.add (k * 5)).block, (lb.add (k * 5)).off + 1, none⟩) = some (.int .i64 y.b) := ey1
 replace ey2 : X.cell? (⟨(lb.add (k * 5)).block, (lb.add (k * 5)).off + 2, none⟩) = some (.int .i64 y.c) := ey2
 replace ey3 : X.cell? (⟨(lb.add (k * 5)).block, (lb.add (k * 5)).off + 3, none⟩) = some (.int .i64 y.d) := ey3
 replace ey4 : X.cell? (⟨(lb.add (k * 5)).block, (lb.add (k * 5)).off + 4, none⟩) = some (.int .i64 y.e) := ey4
 have hel : ∀ wx, Below X.heap.size X wx → wx.cell? ⟨ba, 1, none⟩ = some (.slice YA a2.length yc) ∧ wx.cell? ⟨bb, 1, none⟩ = some (.slice YB b2.length yd) ∧ wx.cell? (la.add (i * 5)) = some (.int .i64 x.a) ∧ wx.cell? (⟨(la.add (i * 5)).block, (la.add (i * 5)).off + 1, none⟩) = some (.int .i64 x.b) ∧ wx.cell? (⟨(la.add (i * 5)).block, (la.add (i * 5)).off + 2, none⟩) = some (.int .i64 x.c) ∧ wx.cell? (⟨(la.add (i * 5)).block, (la.add (i * 5)).off + 3, none⟩) = some (.int .i64 x.d) ∧ wx.cell? (⟨(la.add (i * 5)).block, (la.add (i * 5)).off + 4, none⟩) = some (.int .i64 x.e) ∧ wx.cell? (lb.add (k * 5)) = some (.int .i64 y.a) ∧ wx.cell? (⟨(lb.add (k * 5)).block, (lb.add (k * 5)).off + 1, none⟩) = some (.int .i64 y.b) ∧ wx.cell? (⟨(lb.add (k * 5)).block, (lb.add (k * 5)).off + 2, none⟩) = some (.int .i64 y.c) ∧ wx.cell? (⟨(lb.add (k * 5)).block, (lb.add (k * 5)).off + 3, none⟩) = some (.int .i64 y.d) ∧ wx.cell? (⟨(lb.add (k * 5)).block, (lb.add (k * 5)).off + 4, none⟩) = some (.int .i64 y.e) := fun wx hbx => by
  exact ⟨(xa.below hbx).c3.2.1, (xb.below hbx).c3.2.1, (hbx.cell (p := la.add (i * 5)) laB).trans ex0, (hbx.cell (p := ⟨(la.add (i * 5)).block, (la.add (i * 5)).off + 1, none⟩) laB).trans ex1, (hbx.cell (p := ⟨(la.add (i * 5)).block, (la.add (i * 5)).off + 2, none⟩) laB).trans ex2, (hbx.cell (p := ⟨(la.add (i * 5)).block, (la.add (i * 5)).off + 3, none⟩) laB).trans ex3, (hbx.cell (p := ⟨(la.add (i * 5)).block, (la.add (i * 5)).off + 4, none⟩) laB).trans ex4, (hbx.cell (p := lb.add (k * 5)) lbB).trans ey0, (hbx.cell (p := ⟨(lb.add (k * 5)).block, (lb.add (k * 5)).off + 1, none⟩) lbB).trans ey1, (hbx.cell (p := ⟨(lb.add (k * 5)).block, (lb.add (k * 5)).off + 2, none⟩) lbB).trans ey2, (hbx.cell (p := ⟨(lb.add (k * 5)).block, (lb.add (k * 5)).off + 3, none⟩) lbB).trans ey3, (hbx.cell (p := ⟨(lb.add (k * 5)).block, (lb.add (k * 5)).off + 4, none⟩) lbB).trans ey4⟩
 have hc : Below X.heap.size X X.drew := (Below.refl _ _).drew
 have h5 := hel _ hc
 have h6 := hel _ (Below.refl _ _)
 have hls : ∃ r, M.lessI y.l x.l = r := ⟨_, rfl⟩
 obtain ⟨r, hls⟩ := hls
 rw [show M.ls5 y x = M.lessI y.l x.l from rfl, hls] at HT
 have kX : Hid (∀ wx, Calls Tryz.prog 61 #[p5v x] wx (RetS 1 icell wx x.l)) := Lib.hid (fun wx => load16_any x wx)
 have kY : Hid (∀ wx, Calls Tryz.prog 61 #[p5v y] wx (RetS 1 icell wx y.l)) := Lib.hid (fun wx => load16_any y wx)
 have kL : Hid (∀ wx PA QA pc qc, Sl 1 icell wx wx.heap.size PA y.l → Sl 1 icell wx wx.heap.size QA x.l → Calls Tryz.prog 59 #[.slice PA y.l.length pc, .slice QA x.l.length qc] wx fun e w' => e = .returned (.bool r) ∧ Below wx.heap.size wx w') := Lib.hid (fun wx PA QA pc qc h1 h2 => by rw [← hls]; exact less16_any PA QA pc qc y.l x.l wx h1 h2 rfl (by show 5 ≤ 1000; decide))
 clear hls hi hk hA hB
 subst hla
 subst hlb
 go_region_held3 (fun w' => w'.cell? ⟨ba, 1, none⟩ = some (.slice (some la) a2.length yc) ∧ w'.cell? ⟨bb, 1, none⟩ = some (.slice (some lb) b2.length yd) ∧ w'.cell? (la.add (i * 5)) = some (.int .i64 x.a) ∧ w'.cell? (⟨(la.add (i * 5)).block, (la.add (i * 5)).off + 1, none⟩) = some (.int .i64 x.b) ∧ w'.cell? (⟨(la.add (i * 5)).block, (la.add (i * 5)).off + 2, none⟩) = some (.int .i64 x.c) ∧ w'.cell? (⟨(la.add (i * 5)).block, (la.add (i * 5)).off + 3, none⟩) = some (.int .i64 x.d) ∧ w'.cell? (⟨(la.add (i * 5)).block, (la.add (i * 5)).off + 4, none⟩) = some (.int .i64 x.e) ∧ w'.cell? (lb.add (k * 5)) = some (.int .i64 y.a) ∧ w'.cell? (⟨(lb.add (k * 5)).block, (lb.add (k * 5)).off + 1, none⟩) = some (.int .i64 y.b) ∧ w'.cell? (⟨(lb.add (k * 5)).block, (lb.add (k * 5)).off + 2, none⟩) = some (.int .i64 y.c) ∧ w'.cell? (⟨(lb.add (k * 5)).block, (lb.add (k * 5)).off + 3, none⟩) = some (.int .i64 y.d) ∧ w'.cell? (⟨(lb.add (k * 5)).block, (lb.add (k * 5)).off + 4, none⟩) = some (.int .i64 y.e)) (first | with_reducible exact h5 | with_reducible exact h6 | with_reducible exact hel _ hc)
  (first
   | (go_at_call 61; ((with_reducible refine (kY.out _).mono ?_); rintro e wa ⟨PA, pc, rfl, SA, hba⟩; replace hc := hc.trans (hba.mono hc.size); clear hba))
   | (go_at_call 61; ((with_reducible refine (kX.out _).mono ?_); rintro e wb ⟨QA, qc, rfl, SB, hbb⟩; replace SA := (SA.below hbb).more hbb.size; replace hc := hc.trans (hbb.mono hc.size); clear hbb))
   | (go_at_call 59; ((with_reducible refine (kL.out _ PA QA pc qc SA SB).mono ?_); rintro e wd ⟨rfl, hbd⟩; replace hc := hc.trans (hbd.mono hc.size); clear hbd)))
 all_goals exact hQ _ _ _ _ _ _ _ _ _ _ _ _ _ _ _ _ _ _ _ _ _ _ _ _ _ _ _ r HT.out.symm hc
set_option maxHeartbeats 32000000 in
theorem j16_e1 {Q : Exit → Act → World → Prop} {cd : Code} {dl : List Deferred} {Z0 Z1 Z4 Z5 Z9 Za Zb Zc Zd Ze Zf Zg Zh Zi Zj Zk Zl Zm Zn Zo Zp Zq Zr Zs Zt Zu Zv Zw Zx Zy Zz Z10 Z11 Z12 Z13 Z14 Z15 Z16 Z17 Z18 Z19 Z1a Z1b Z1c Z1d Z1e Z1f Z1g Z1h Z1i Z1j Z1k Z1l Z1m Z1n Z1o Z1p Z1q Z1r Z1s Z1t Z1u Z1v Z1w Z1x Z1y Z1z Z20 Z21 Z22 Z23 Z24 Z25 Z26 Z27 Z28 Z29 Z2a Z2b Z2c Z2d Z2e Z2f Z2g Z2h Z2i Z2j Z2k Z2l Z2m Z2n Z2o Z2p Z2q Z2r Z2s Z2t Z2u Z2v Z2w Z2x Z2y Z2z Z30 Z31 Z32 Z33 Z34 Z35 Z36 Z37 Z38 Z39 Z3a Z3b Z3c Z3d Z3e Z3f Z3g Z3h Z3i Z3j Z3k Z3l Z3m Z3n Z3o Z3p Z3q Z3r Z3s Z3t Z3u Z3v Z3w Z3x Z3y Z3z Z40 Z41 Z42 Z43 Z44 Z45 Z46 Z47 Z48 Z49 Z4a Z4b Z4c Z4d Z4e Z4f Z4g Z4h Z4i Z4j Z4k Z4l Z4m Z4n Z4o Z4p Z4q Z4r Z4s Z4t Z4u Z4v Z4w Z4x Z4y Z4z Z50 Z51 Z52 Z53 Z54 Z55 Z56 Z57 Z58 Z59 Z5a Z5b Z5c Z5d Z5e Z5f Z5g Z5h Z5i Z5j Z5k Z5l Z5m Z5n Z5o Z5p Z5q Z5r Z5s Z5t Z5u Z5v Z5w Z5x Z5y Z5z Z60 Z61 Z62 Z63 Z64 Z65 Z66 Z67 Z68 Z69 Z6a Z6b Z6c Z6d Z6e Z6f Z6g Z6h Z6i Z6j Z6k Z6l Z6m Z6n Z6o Z6p Z6q Z6r Z6s Z6t Z6u Z6v Z6w Z6x Z6y Z6z Z70 Z71 Z72 Z73 Z74 Z75 Z76 Z77 Z78 Z79 Z7a Z7b Z7c Z7d Z7e Z7f Z7g Z7h Z7i Z7j Z7k Z7l Z7m Z7n Z7o Z7p Z7q Z7r Z7s Z7t Z7u Z7v Z7w Z7x Z7y Z7z Z80 Z81 Z82 Z83 Z84 Z85 Z86 Z87 Z88 Z89 Z8a Z8b Z8c Z8d Z8e Z8f Z8g Z8h Z8i Z8j Z8k Z8l Z8m Z8n Z8o Z8p : Value} (XA YA ZA XB YB ZB : Option Addr) (xc yc zc xd yd zd : Nat) (a1 a2 : List P5) (a3 : List P4) (b1 b2 : List P5) (b3 : List P4) (X : World) (ba bb br i k : Nat) (xa : Box X ba #[.slice XA a1.length xc, .slice YA a2.length yc, .slice ZA a3.length zc] 30) (xb : Box X bb #[.slice XB b1.length xd, .slice YB b2.length yd, .slice ZB b3.length zd] 30) (hA : Sl 5 p5cell X X.heap.size YA a2) (hB : Sl 5 p5cell X X.heap.size YB b2) (hi : i < a2.length) (hcd : (Tryz.f29.body.bind (regionOf 16)) = some cd)
  (hQ : ∀ (y180 y181 y182 y183 y184 y185 y186 y187 y188 y189 y190 y191 y192 y193 y194 y195 y196 : Value) (wo : World) (r : Bool), r = M.takeE a2 b2 i k → Below X.heap.size X wo → Q .normal ⟨#[Z0,Z1,.pointer (some ⟨ba, 0, none⟩),.pointer (some ⟨bb, 0, none⟩),Z4,Z5,.pointer (some ⟨br, 0, none⟩),.int .i64 i,.int .i64 k,Z9,Za,Zb,Zc,Zd,Ze,Zf,Zg,Zh,Zi,Zj,Zk,Zl,Zm,Zn,Zo,Zp,Zq,Zr,Zs,Zt,Zu,Zv,Zw,Zx,Zy,Zz,Z10,Z11,Z12,Z13,Z14,Z15,Z16,Z17,Z18,Z19,Z1a,Z1b,Z1c,Z1d,Z1e,Z1f,Z1g,Z1h,Z1i,Z1j,Z1k,Z1l,Z1m,Z1n,Z1o,Z1p,Z1q,Z1r,Z1s,Z1t,Z1u,Z1v,Z1w,Z1x,Z1y,Z1z,Z20,Z21,Z22,Z23,Z24,Z25,Z26,Z27,Z28,Z29,Z2a,Z2b,Z2c,Z2d,Z2e,Z2f,Z2g,Z2h,Z2i,Z2j,Z2k,Z2l,Z2m,Z2n,Z2o,Z2p,Z2q,Z2r,Z2s,Z2t,Z2u,Z2v,Z2w,Z2x,Z2y,Z2z,Z30,Z31,Z32,Z33,Z34,Z35,Z36,Z37,Z38,Z39,Z3a,Z3b,Z3c,Z3d,Z3e,Z3f,Z3g,Z3h,Z3i,Z3j,Z3k,Z3l,Z3m,Z3n,Z3o,Z3p,Z3q,Z3r,Z3s,Z3t,Z3u,Z3v,Z3w,Z3x,Z3y,Z3z,Z40,Z41,Z42,Z43,Z44,Z45,Z46,Z47,Z48,Z49,Z4a,Z4b,Z4c,Z4d,Z4e,Z4f,Z4g,Z4h,Z4i,Z4j,Z4k,Z4l,Z4m,Z4n,Z4o,Z4p,Z4q,Z4r,Z4s,Z4t,Z4u,Z4v,Z4w,Z4x,Z4y,.bool r,y180,y181,y182,y183,y184,y185,y186,y187,y188,y189,y190,y191,y192,y193,y194,y195,y196,.bool r,Z5i,Z5j,Z5k,Z5l,Z5m,Z5n,Z5o,Z5p,Z5q,Z5r,Z5s,Z5t,Z5u,Z5v,Z5w,Z5x,Z5y,Z5z,Z60,Z61,Z62,Z63,Z64,Z65,Z66,Z67,Z68,Z69,Z6a,Z6b,Z6c,Z6d,Z6e,Z6f,Z6g,Z6h,Z6i,Z6j,Z6k,Z6l,Z6m,Z6n,Z6o,Z6p,Z6q,Z6r,Z6s,Z6t,Z6u,Z6v,Z6w,Z6x,Z6y,Z6z,Z70,Z71,Z72,Z73,Z74,Z75,Z76,Z77,Z78,Z79,Z7a,Z7b,Z7c,Z7d,Z7e,Z7f,Z7g,Z7h,Z7i,Z7j,Z7k,Z7l,Z7m,Z7n,Z7o,Z7p,Z7q,Z7r,Z7s,Z7t,Z7u,Z7v,Z7w,Z7x,Z7y,Z7z,Z80,Z81,Z82,Z83,Z84,Z85,Z86,Z87,Z88,Z89,Z8a,Z8b,Z8c,Z8d,Z8e,Z8f,Z8g,Z8h,Z8i,Z8j,Z8k,Z8l,Z8m,Z8n,Z8o,Z8p], dl⟩ wo) :
  cd.wp Tryz.prog Q ⟨#[Z0,Z1,.pointer (some ⟨ba, 0, none⟩),.pointer (some ⟨bb, 0, none⟩),Z4,Z5,.pointer (some ⟨br, 0, none⟩),.int .i64 i,.int .i64 k,Z9,Za,Zb,Zc,Zd,Ze,Zf,Zg,Zh,Zi,Zj,Zk,Zl,Zm,Zn,Zo,Zp,Zq,Zr,Zs,Zt,Zu,Zv,Zw,Zx,Zy,Zz,Z10,Z11,Z12,Z13,Z14,Z15,Z16,Z17,Z18,Z19,Z1a,Z1b,Z1c,Z1d,Z1e,Z1f,Z1g,Z1h,Z1i,Z1j,Z1k,Z1l,Z1m,Z1n,Z1o,Z1p,Z1q,Z1r,Z1s,Z1t,Z1u,Z1v,Z1w,Z1x,Z1y,Z1z,Z20,Z21,Z22,Z23,Z24,Z25,Z26,Z27,Z28,Z29,Z2a,Z2b,Z2c,Z2d,Z2e,Z2f,Z2g,Z2h,Z2i,Z2j,Z2k,Z2l,Z2m,Z2n,Z2o,Z2p,Z2q,Z2r,Z2s,Z2t,Z2u,Z2v,Z2w,Z2x,Z2y,Z2z,Z30,Z31,Z32,Z33,Z34,Z35,Z36,Z37,Z38,Z39,Z3a,Z3b,Z3c,Z3d,Z3e,Z3f,Z3g,Z3h,Z3i,Z3j,Z3k,Z3l,Z3m,Z3n,Z3o,Z3p,Z3q,Z3r,Z3s,Z3t,Z3u,Z3v,Z3w,Z3x,Z3y,Z3z,Z40,Z41,Z42,Z43,Z44,Z45,Z46,Z47,Z48,Z49,Z4a,Z4b,Z4c,Z4d,Z4e,Z4f,Z4g,Z4h,Z4i,Z4j,Z4k,Z4l,Z4m,Z4n,Z4o,Z4p,Z4q,Z4r,Z4s,Z4t,Z4u,Z4v,Z4w,Z4x,Z4y,Z4z,Z50,Z51,Z52,Z53,Z54,Z55,Z56,Z57,Z58,Z59,Z5a,Z5b,Z5c,Z5d,Z5e,Z5f,Z5g,Z5h,Z5i,Z5j,Z5k,Z5l,Z5m,Z5n,Z5o,Z5p,Z5q,Z5r,Z5s,Z5t,Z5u,Z5v,Z5w,Z5x,Z5y,Z5z,Z60,Z61,Z62,Z63,Z64,Z65,Z66,Z67,Z68,Z69,Z6a,Z6b,Z6c,Z6d,Z6e,Z6f,Z6g,Z6h,Z6i,Z6j,Z6k,Z6l,Z6m,Z6n,Z6o,Z6p,Z6q,Z6r,Z6s,Z6t,Z6u,Z6v,Z6w,Z6x,Z6y,Z6z,Z70,Z71,Z72,Z73,Z74,Z75,Z76,Z77,Z78,Z79,Z7a,Z7b,Z7c,Z7d,Z7e,Z7f,Z7g,Z7h,Z7i,Z7j,Z7k,Z7l,Z7m,Z7n,Z7o,Z7p,Z7q,Z7r,Z7s,Z7t,Z7u,Z7v,Z7w,Z7x,Z7y,Z7z,Z80,Z81,Z82,Z83,Z84,Z85,Z86,Z87,Z88,Z89,Z8a,Z8b,Z8c,Z8d,Z8e,Z8f,Z8g,Z8h,Z8i,Z8j,Z8k,Z8l,Z8m,Z8n,Z8o,Z8p], dl⟩ X := by
 rw [show (Tryz.f29.body.bind (regionOf 16)) = some (Code.region 16 _ true) from rfl] at hcd
 obtain rfl := Option.some.inj hcd
 clear hcd
 dsimp only at hQ ⊢
 obtain ⟨p0, p1, p2⟩ := xa.c3
 obtain ⟨q0, q1, q2⟩ := xb.c3
 have la0 := xa.lt
 have lb0 := xb.lt
 have z0 : (0 : Int) ≤ (i : Int) := by omega
 have z1 : (0 : Int) ≤ (k : Int) := by omega
 have g2 : (i : Int) < (a2.length : Int) := by omega
 by_cases hk : k < b2.length
 case neg =>
  have HF := Lib.hid (M.takeE_no (a := a2) (i := i) hk)
  have qk : decide ((k : Int) < (b2.length : Int)) = false := decide_eq_false (by omega)
  have qk' : decide (k < b2.length) = false := decide_eq_false hk
  clear hk hA hB
  refine wp_region_kept X.heap.size X (by kernel_rfl) (by kernel_rfl) (Below.refl _ _) ?_
  repeat (go_big_quiet_step (fail))
  refine wpQuiet_nil ?_
  rintro w5 ⟨⟨w5x, hb5⟩, hw5⟩
  dsimp only at hw5
  subst hw5
  exact hQ _ _ _ _ _ _ _ _ _ _ _ _ _ _ _ _ _ _ false HF.out.symm hb5
 have qk : decide ((k : Int) < (b2.length : Int)) = true := decide_eq_true (by omega)
 have qk' : decide (k < b2.length) = true := decide_eq_true hk
 have g1 : (k : Int) < (b2.length : Int) := by omega
 obtain ⟨la, hla, laB, ex0, hq⟩ := hA.sp (by decide) hi
 have ex1 := hq 1 (by decide) (by decide)
 have ex2 := hq 2 (by decide) (by decide)
 have ex3 := hq 3 (by decide) (by decide)
 have ex4 := hq 4 (by decide) (by decide)
 clear hq
 obtain ⟨lb, hlb, lbB, ey0, hq⟩ := hB.sp (by decide) hk
 have ey1 := hq 1 (by decide) (by decide)
 have ey2 := hq 2 (by decide) (by decide)
 have ey3 := hq 3 (by decide) (by decide)
 have ey4 := hq 4 (by decide) (by decide)
 clear hq
 have HT := Lib.hid (M.takeE_at hi hk)
 obtain ⟨x, hx⟩ : ∃ x, a2[i] = x := ⟨_, rfl⟩
 rw [hx] at ex0 ex1 ex2 ex3 ex4 HT
 clear hx
 replace ex0 : X.cell? (la.add (i * 5)) = some (.int .i64 x.a) := ex0
 replace ex1 : X.cell? (⟨(la.add (i * 5)).block, (la.add (i * 5)).off + 1, none⟩) = some (.int .i64 x.b) := ex1
 replace ex2 : X.cell? (⟨(la.add (i * 5)).block, (la.add (i * 5)).off + 2, none⟩) = some (.int .i64 x.c) := ex2
 replace ex3 : X.cell? (⟨(la.add (i * 5)).block, (la.add (i * 5)).off + 3, none⟩) = some (.int .i64 x.d) := ex3
 replace ex4 : X.cell? (⟨(la.add (i * 5)).block, (la.add (i * 5)).off + 4, none⟩) = some (.int .i64 x.e) := ex4
 obtain ⟨y, hy⟩ : ∃ x, b2[k] = x := ⟨_, rfl⟩
 rw [hy] at ey0 ey1 ey2 ey3 ey4 HT
 clear hy
 replace ey0 : X.cell? (lb.add (k * 5)) = some (.int .i64 y.a) := ey0
 replace ey1 : X.cell? (⟨(lb.add (k * 5)).block, (lb.add (k * 5)).off + 1, none⟩) = some (.int .i64 y.b) := ey1
 replace ey2 : X.cell? (⟨(lb.add (k * 5)).block, (lb.add (k * 5)).off + 2, none⟩) = some (.int .i64 y.c) := ey2
 replace ey3 : X.cell? (⟨(lb.add (k * 5)).block, (lb.add (k * 5)).off + 3, none⟩) = some (.int .i64 y.d) := ey3
 replace ey4 : X.cell? (⟨(lb.add (k * 5)).block, (lb.add (k * 5)).off + 4, none⟩) = some (.int .i64 y.e) := ey4
 clear hi hk hA hB
 subst hla
 subst hlb
 obtain ⟨u0, u1, u2, u3, u4⟩ := x
 obtain ⟨t0, t1, t2, t3, t4⟩ := y
 dsimp only at ex0 ey0 ex1 ey1 ex2 ey2 ex3 ey3 ex4 ey4
 by_cases h0 : u0 = t0
 case neg =>
  have HF := Lib.hid (HT.out.trans (decide_eq_false (fun e => h0 (by injection e))))
  refine wp_region_kept X.heap.size X (by kernel_rfl) (by kernel_rfl) (Below.refl _ _) ?_
  repeat (go_big_quiet_step (fail))
  refine wpQuiet_nil ?_
  rintro w5 ⟨⟨w5x, hb5⟩, hw5⟩
  dsimp only at hw5
  subst hw5
  exact hQ _ _ _ _ _ _ _ _ _ _ _ _ _ _ _ _ _ _ false HF.out.symm hb5
 subst h0
 by_cases h1 : u1 = t1
 case neg =>
  have HF := Lib.hid (HT.out.trans (decide_eq_false (fun e => h1 (by injection e))))
  refine wp_region_kept X.heap.size X (by kernel_rfl) (by kernel_rfl) (Below.refl _ _) ?_
  repeat (go_big_quiet_step (fail))
  refine wpQuiet_nil ?_
  rintro w5 ⟨⟨w5x, hb5⟩, hw5⟩
  dsimp only at hw5
  subst hw5
  exact hQ _ _ _ _ _ _ _ _ _ _ _ _ _ _ _ _ _ _ false HF.out.symm hb5
 subst h1
 by_cases h2 : u2 = t2
 case neg =>
  have HF := Lib.hid (HT.out.trans (decide_eq_false (fun e => h2 (by injection e))))
  refine wp_region_kept X.heap.size X (by kernel_rfl) (by kernel_rfl) (Below.refl _ _) ?_
  repeat (go_big_quiet_step (fail))
  refine wpQuiet_nil ?_
  rintro w5 ⟨⟨w5x, hb5⟩, hw5⟩
  dsimp only at hw5
  subst hw5
  exact hQ _ _ _ _ _ _ _ _ _ _ _ _ _ _ _ _ _ _ false HF.out.symm hb5
 subst h2
 by_cases h3 : u3 = t3
 case neg =>
  have HF := Lib.hid (HT.out.trans (decide_eq_false (fun e => h3 (by injection e))))
  refine wp_region_kept X.heap.size X (by kernel_rfl) (by kernel_rfl) (Below.refl _ _) ?_
  repeat (go_big_quiet_step (fail))
  refine wpQuiet_nil ?_
  rintro w5 ⟨⟨w5x, hb5⟩, hw5⟩
  dsimp only at hw5
  subst hw5
  exact hQ _ _ _ _ _ _ _ _ _ _ _ _ _ _ _ _ _ _ false HF.out.symm hb5
 subst h3
 by_cases h4 : u4 = t4
 case neg =>
  have HF := Lib.hid (HT.out.trans (decide_eq_false (fun e => h4 (by injection e))))
  refine wp_region_kept X.heap.size X (by kernel_rfl) (by kernel_rfl) (Below.refl _ _) ?_
  repeat (go_big_quiet_step (fail))
  refine wpQuiet_nil ?_
  rintro w5 ⟨⟨w5x, hb5⟩, hw5⟩
  dsimp only at hw5
  subst hw5
  exact hQ _ _ _ _ _ _ _ _ _ _ _ _ _ _ _ _ _ _ false HF.out.symm hb5
 subst h4
 have HF := Lib.hid (HT.out.trans (decide_eq_true rfl))
 refine wp_region_kept X.heap.size X (by kernel_rfl) (by kernel_rfl) (Below.refl _ _) ?_
 repeat (go_big_quiet_step (fail))
 refine wpQuiet_nil ?_
 rintro w5 ⟨⟨w5x, hb5⟩, hw5⟩
 dsimp only at hw5
 subst hw5
 exact hQ _ _ _ _ _ _ _ _ _ _ _ _ _ _ _ _ _ _ true HF.out.symm hb5
set_option maxHeartbeats 32000000 in
theorem j16_b1 {Q : Exit → Act → World → Prop} {cd : Code} {dl : List Deferred} {Z0 Z1 Z4 Z5 Z9 Za Zb Zc Zd Ze Zf Zg Zh Zi Zj Zk Zl Zm Zn Zo Zp Zq Zr Zs Zt Zu Zv Zw Zx Zy Zz Z10 Z11 Z12 Z13 Z14 Z15 Z16 Z17 Z18 Z19 Z1a Z1b Z1c Z1d Z1e Z1f Z1g Z1h Z1i Z1j Z1k Z1l Z1m Z1n Z1o Z1p Z1q Z1r Z1s Z1t Z1u Z1v Z1w Z1x Z1y Z1z Z20 Z21 Z22 Z23 Z24 Z25 Z26 Z27 Z28 Z29 Z2a Z2b Z2c Z2d Z2e Z2f Z2g Z2h Z2i Z2j Z2k Z2l Z2m Z2n Z2o Z2p Z2q Z2r Z2s Z2t Z2u Z2v Z2w Z2x Z2y Z2z Z30 Z31 Z32 Z33 Z34 Z35 Z36 Z37 Z38 Z39 Z3a Z3b Z3c Z3d Z3e Z3f Z3g Z3h Z3i Z3j Z3k Z3l Z3m Z3n Z3o Z3p Z3q Z3r Z3s Z3t Z3u Z3v Z3w Z3x Z3y Z3z Z40 Z41 Z42 Z43 Z44 Z45 Z46 Z47 Z48 Z49 Z4a Z4b Z4c Z4d Z4e Z4f Z4g Z4h Z4i Z4j Z4k Z4l Z4m Z4n Z4o Z4p Z4q Z4r Z4s Z4t Z4u Z4v Z4w Z4x Z4y Z4z Z50 Z51 Z52 Z53 Z54 Z55 Z56 Z57 Z58 Z59 Z5a Z5b Z5c Z5d Z5e Z5f Z5g Z5h Z5i Z5j Z5k Z5l Z5m Z5n Z5o Z5p Z5q Z5r Z5s Z5t Z5u Z5v Z5w Z5x Z5y Z5z Z60 Z61 Z62 Z63 Z64 Z65 Z66 Z67 Z68 Z69 Z6a Z6b Z6c Z6d Z6e Z6f Z6g Z6h Z6i Z6j Z6k Z6l Z6m Z6n Z6o Z6p Z6q Z6r Z6s Z6t Z6u Z6v Z6w Z6x Z6y Z6z Z70 Z71 Z72 Z73 Z74 Z75 Z76 Z77 Z78 Z79 Z7a Z7b Z7c Z7d Z7e Z7f Z7g Z7h Z7i Z7j Z7k Z7l Z7m Z7n Z7o Z7p Z7q Z7r Z7s Z7t Z7u Z7v Z7w Z7x Z7y Z7z Z80 Z81 Z82 Z83 Z84 Z85 Z86 Z87 Z88 Z89 Z8a Z8b Z8c Z8d Z8e Z8f Z8g Z8h Z8i Z8j Z8k Z8l Z8m Z8n Z8o Z8p : Value} (XA YA ZA XB YB ZB : Option Addr) (xc yc zc xd yd zd : Nat) (a1 a2 : List P5) (a3 : List P4) (b1 b2 : List P5) (b3 : List P4) (X : World) (ba bb br i k : Nat) (xa : Box X ba #[.slice XA a1.length xc, .slice YA a2.length yc, .slice ZA a3.length zc] 30) (xb : Box X bb #[.slice XB b1.length xd, .slice YB b2.length yd, .slice ZB b3.length zd] 30) (W0 : World) (v1 v2 v3 : Value) (o1 o2 : List P5) (o3 : List P4) (rc : RC X (br + 1) br o1 o2 o3 v1 v2 v3) (hB : Below br W0 X) (hs : br + 1 ≤ X.heap.size) (hS : Sl 5 p5cell X X.heap.size YB b2) (hlt : k < b2.length) (hol : o2.length ≤ 15000) (hk : k ≤ 10000) (hcd : (Tryz.f29.body.bind (regionOf 15)) = some cd)
  (hQ : ∀ (y167 y168 y169 y170 y171 y172 y173 y174 y175 y176 y177 y178 : Value) (wo : World) (z8 : Value) (v' : Value), z8 = .int .i64 ((k + 1 : Nat) : Int) → RC wo (br + 1) br o1 (o2 ++ [b2[k]]) o3 v1 v' v3 → Below br W0 wo → br + 1 ≤ wo.heap.size → Q .normal ⟨#[Z0,Z1,.pointer (some ⟨ba, 0, none⟩),.pointer (some ⟨bb, 0, none⟩),Z4,Z5,.pointer (some ⟨br, 0, none⟩),.int .i64 i,z8,Z9,Za,Zb,Zc,Zd,Ze,Zf,Zg,Zh,Zi,Zj,Zk,Zl,Zm,Zn,Zo,Zp,Zq,Zr,Zs,Zt,Zu,Zv,Zw,Zx,Zy,Zz,Z10,Z11,Z12,Z13,Z14,Z15,Z16,Z17,Z18,Z19,Z1a,Z1b,Z1c,Z1d,Z1e,Z1f,Z1g,Z1h,Z1i,Z1j,Z1k,Z1l,Z1m,Z1n,Z1o,Z1p,Z1q,Z1r,Z1s,Z1t,Z1u,Z1v,Z1w,Z1x,Z1y,Z1z,Z20,Z21,Z22,Z23,Z24,Z25,Z26,Z27,Z28,Z29,Z2a,Z2b,Z2c,Z2d,Z2e,Z2f,Z2g,Z2h,Z2i,Z2j,Z2k,Z2l,Z2m,Z2n,Z2o,Z2p,Z2q,Z2r,Z2s,Z2t,Z2u,Z2v,Z2w,Z2x,Z2y,Z2z,Z30,Z31,Z32,Z33,Z34,Z35,Z36,Z37,Z38,Z39,Z3a,Z3b,Z3c,Z3d,Z3e,Z3f,Z3g,Z3h,Z3i,Z3j,Z3k,Z3l,Z3m,Z3n,Z3o,Z3p,Z3q,Z3r,Z3s,Z3t,Z3u,Z3v,Z3w,Z3x,Z3y,Z3z,Z40,Z41,Z42,Z43,Z44,Z45,Z46,Z47,Z48,Z49,Z4a,Z4b,Z4c,Z4d,Z4e,Z4f,Z4g,Z4h,Z4i,Z4j,Z4k,Z4l,Z4m,y167,y168,y169,y170,y171,y172,y173,y174,y175,y176,y177,y178,Z4z,Z50,Z51,Z52,Z53,Z54,Z55,Z56,Z57,Z58,Z59,Z5a,Z5b,Z5c,Z5d,Z5e,Z5f,Z5g,Z5h,Z5i,Z5j,Z5k,Z5l,Z5m,Z5n,Z5o,Z5p,Z5q,Z5r,Z5s,Z5t,Z5u,Z5v,Z5w,Z5x,Z5y,Z5z,Z60,Z61,Z62,Z63,Z64,Z65,Z66,Z67,Z68,Z69,Z6a,Z6b,Z6c,Z6d,Z6e,Z6f,Z6g,Z6h,Z6i,Z6j,Z6k,Z6l,Z6m,Z6n,Z6o,Z6p,Z6q,Z6r,Z6s,Z6t,Z6u,Z6v,Z6w,Z6x,Z6y,Z6z,Z70,Z71,Z72,Z73,Z74,Z75,Z76,Z77,Z78,Z79,Z7a,Z7b,Z7c,Z7d,Z7e,Z7f,Z7g,Z7h,Z7i,Z7j,Z7k,Z7l,Z7m,Z7n,Z7o,Z7p,Z7q,Z7r,Z7s,Z7t,Z7u,Z7v,Z7w,Z7x,Z7y,Z7z,Z80,Z81,Z82,Z83,Z84,Z85,Z86,Z87,Z88,Z89,Z8a,Z8b,Z8c,Z8d,Z8e,Z8f,Z8g,Z8h,Z8i,Z8j,Z8k,Z8l,Z8m,Z8n,Z8o,Z8p], dl⟩ wo) :
  cd.wp Tryz.prog Q ⟨#[Z0,Z1,.pointer (some ⟨ba, 0, none⟩),.pointer (some ⟨bb, 0, none⟩),Z4,Z5,.pointer (some ⟨br, 0, none⟩),.int .i64 i,.int .i64 k,Z9,Za,Zb,Zc,Zd,Ze,Zf,Zg,Zh,Zi,Zj,Zk,Zl,Zm,Zn,Zo,Zp,Zq,Zr,Zs,Zt,Zu,Zv,Zw,Zx,Zy,Zz,Z10,Z11,Z12,Z13,Z14,Z15,Z16,Z17,Z18,Z19,Z1a,Z1b,Z1c,Z1d,Z1e,Z1f,Z1g,Z1h,Z1i,Z1j,Z1k,Z1l,Z1m,Z1n,Z1o,Z1p,Z1q,Z1r,Z1s,Z1t,Z1u,Z1v,Z1w,Z1x,Z1y,Z1z,Z20,Z21,Z22,Z23,Z24,Z25,Z26,Z27,Z28,Z29,Z2a,Z2b,Z2c,Z2d,Z2e,Z2f,Z2g,Z2h,Z2i,Z2j,Z2k,Z2l,Z2m,Z2n,Z2o,Z2p,Z2q,Z2r,Z2s,Z2t,Z2u,Z2v,Z2w,Z2x,Z2y,Z2z,Z30,Z31,Z32,Z33,Z34,Z35,Z36,Z37,Z38,Z39,Z3a,Z3b,Z3c,Z3d,Z3e,Z3f,Z3g,Z3h,Z3i,Z3j,Z3k,Z3l,Z3m,Z3n,Z3o,Z3p,Z3q,Z3r,Z3s,Z3t,Z3u,Z3v,Z3w,Z3x,Z3y,Z3z,Z40,Z41,Z42,Z43,Z44,Z45,Z46,Z47,Z48,Z49,Z4a,Z4b,Z4c,Z4d,Z4e,Z4f,Z4g,Z4h,Z4i,Z4j,Z4k,Z4l,Z4m,Z4n,Z4o,Z4p,Z4q,Z4r,Z4s,Z4t,Z4u,Z4v,Z4w,Z4x,Z4y,Z4z,Z50,Z51,Z52,Z53,Z54,Z55,Z56,Z57,Z58,Z59,Z5a,Z5b,Z5c,Z5d,Z5e,Z5f,Z5g,Z5h,Z5i,Z5j,Z5k,Z5l,Z5m,Z5n,Z5o,Z5p,Z5q,Z5r,Z5s,Z5t,Z5u,Z5v,Z5w,Z5x,Z5y,Z5z,Z60,Z61,Z62,Z63,Z64,Z65,Z66,Z67,Z68,Z69,Z6a,Z6b,Z6c,Z6d,Z6e,Z6f,Z6g,Z6h,Z6i,Z6j,Z6k,Z6l,Z6m,Z6n,Z6o,Z6p,Z6q,Z6r,Z6s,Z6t,Z6u,Z6v,Z6w,Z6x,Z6y,Z6z,Z70,Z71,Z72,Z73,Z74,Z75,Z76,Z77,Z78,Z79,Z7a,Z7b,Z7c,Z7d,Z7e,Z7f,Z7g,Z7h,Z7i,Z7j,Z7k,Z7l,Z7m,Z7n,Z7o,Z7p,Z7q,Z7r,Z7s,Z7t,Z7u,Z7v,Z7w,Z7x,Z7y,Z7z,Z80,Z81,Z82,Z83,Z84,Z85,Z86,Z87,Z88,Z89,Z8a,Z8b,Z8c,Z8d,Z8e,Z8f,Z8g,Z8h,Z8i,Z8j,Z8k,Z8l,Z8m,Z8n,Z8o,Z8p], dl⟩ X := by
 rw [show (Tryz.f29.body.bind (regionOf 15)) = some (Code.region 15 _ true) from rfl] at hcd
 obtain rfl := Option.some.inj hcd
 clear hcd
 dsimp only at hQ ⊢
 obtain ⟨i0, hi0, hz0, hz1, hz2⟩ := info_parts loadInfo
 have Hi := Lib.hid hi0; have Hz0 := Lib.hid hz0; have Hz1 := Lib.hid hz1; have Hz2 := Lib.hid hz2
 clear hi0 hz0 hz1 hz2
 obtain ⟨p0, p1, p2⟩ := xa.c3
 obtain ⟨q0, q1, q2⟩ := xb.c3
 obtain ⟨y0, y1, y2⟩ := rc.box.c3
 have f1 := rc.box.frozen 1
 have la0 := xa.lt
 have lb0 := xb.lt
 have lr0 := rc.box.lt
 have z0 : (0 : Int) ≤ (k : Int) := by omega
 have g1 : (k : Int) < (b2.length : Int) := by omega
 obtain ⟨la, hla, laB, ex0, hq⟩ := hS.sp (by decide) hlt
 have ex1 := hq 1 (by decide) (by decide)
 have ex2 := hq 2 (by decide) (by decide)
 have ex3 := hq 3 (by decide) (by decide)
 have ex4 := hq 4 (by decide) (by decide)
 clear hq
 obtain ⟨x, hx⟩ : ∃ x, b2[k] = x := ⟨_, rfl⟩
 rw [hx] at ex0 ex1 ex2 ex3 ex4 hQ
 clear hx
 replace ex0 : X.cell? (la.add (k * 5)) = some (.int .i64 x.a) := ex0
 replace ex1 : X.cell? (⟨(la.add (k * 5)).block, (la.add (k * 5)).off + 1, none⟩) = some (.int .i64 x.b) := ex1
 replace ex2 : X.cell? (⟨(la.add (k * 5)).block, (la.add (k * 5)).off + 2, none⟩) = some (.int .i64 x.c) := ex2
 replace ex3 : X.cell? (⟨(la.add (k * 5)).block, (la.add (k * 5)).off + 3, none⟩) = some (.int .i64 x.d) := ex3
 replace ex4 : X.cell? (⟨(la.add (k * 5)).block, (la.add (k * 5)).off + 4, none⟩) = some (.int .i64 x.e) := ex4
 clear hS
 subst hla
 have rcd := rc.below (Below.refl X.heap.size X).drew
 have hBd := hB.drew
 have hs3 : br + 1 ≤ X.drew.heap.size := hs
 refine wp_region_noPanic ?_
 go_region_law ((refine step_pushR (w := X.drew) (w0 := W0) (cell := p5cell) (y := x) rfl _ _ _ rfl (br + 1) br 68 i0 _ 40 Tryz.underlying27 Hi.out Hz0.out Hz1.out Hz2.out rfl (by decide) v2 o2.length o2 (by simp [Act.eval]) rcd.l _ _ rfl _ (by simp [Act.eval]; rfl) (p5_one _) (by unfold maxLen; omega) (by omega) hs3 (by omega) hBd ?_; intro v' w' hown' hb' hg'; have b1 := rcd.box.grown hg' (rcd.box.ne_own (by decide) rcd.l); obtain ⟨y0, y1, y2⟩ := b1.c3; have f1 := b1.frozen 1; obtain ⟨g', cap', rfl⟩ := ownsRow_succ hown'))
 all_goals refine NoPanic.normal (hQ _ _ _ _ _ _ _ _ _ _ _ _ _ _ _ (by rw [wrap_small (z := (k : Int) + 1) (by omega) (by omega)]; first | rfl | go_num) (rcd.addL (qs := [x]) (Nat.lt_succ_self _) hown' (by rw [List.length_append]; rfl) hg') (hb'.setCell (p := ⟨br, 1, none⟩) (Nat.le_refl _) _) (by rw [World.size_setCell]; exact Nat.le_trans hs3 hg'.size))
set_option maxHeartbeats 32000000 in
theorem j16_d1 {Q : Exit → Act → World → Prop} {cd : Code} {dl : List Deferred} {Z0 Z1 Z4 Z5 Z9 Za Zb Zc Zd Ze Zf Zg Zh Zi Zj Zk Zl Zm Zn Zo Zp Zq Zr Zs Zt Zu Zv Zw Zx Zy Zz Z10 Z11 Z12 Z13 Z14 Z15 Z16 Z17 Z18 Z19 Z1a Z1b Z1c Z1d Z1e Z1f Z1g Z1h Z1i Z1j Z1k Z1l Z1m Z1n Z1o Z1p Z1q Z1r Z1s Z1t Z1u Z1v Z1w Z1x Z1y Z1z Z20 Z21 Z22 Z23 Z24 Z25 Z26 Z27 Z28 Z29 Z2a Z2b Z2c Z2d Z2e Z2f Z2g Z2h Z2i Z2j Z2k Z2l Z2m Z2n Z2o Z2p Z2q Z2r Z2s Z2t Z2u Z2v Z2w Z2x Z2y Z2z Z30 Z31 Z32 Z33 Z34 Z35 Z36 Z37 Z38 Z39 Z3a Z3b Z3c Z3d Z3e Z3f Z3g Z3h Z3i Z3j Z3k Z3l Z3m Z3n Z3o Z3p Z3q Z3r Z3s Z3t Z3u Z3v Z3w Z3x Z3y Z3z Z40 Z41 Z42 Z43 Z44 Z45 Z46 Z47 Z48 Z49 Z4a Z4b Z4c Z4d Z4e Z4f Z4g Z4h Z4i Z4j Z4k Z4l Z4m Z4n Z4o Z4p Z4q Z4r Z4s Z4t Z4u Z4v Z4w Z4x Z4y Z4z Z50 Z51 Z52 Z53 Z54 Z55 Z56 Z57 Z58 Z59 Z5a Z5b Z5c Z5d Z5e Z5f Z5g Z5h Z5i Z5j Z5k Z5l Z5m Z5n Z5o Z5p Z5q Z5r Z5s Z5t Z5u Z5v Z5w Z5x Z5y Z5z Z60 Z61 Z62 Z63 Z64 Z65 Z66 Z67 Z68 Z69 Z6a Z6b Z6c Z6d Z6e Z6f Z6g Z6h Z6i Z6j Z6k Z6l Z6m Z6n Z6o Z6p Z6q Z6r Z6s Z6t Z6u Z6v Z6w Z6x Z6y Z6z Z70 Z71 Z72 Z73 Z74 Z75 Z76 Z77 Z78 Z79 Z7a Z7b Z7c Z7d Z7e Z7f Z7g Z7h Z7i Z7j Z7k Z7l Z7m Z7n Z7o Z7p Z7q Z7r Z7s Z7t Z7u Z7v Z7w Z7x Z7y Z7z Z80 Z81 Z82 Z83 Z84 Z85 Z86 Z87 Z88 Z89 Z8a Z8b Z8c Z8d Z8e Z8f Z8g Z8h Z8i Z8j Z8k Z8l Z8m Z8n Z8o Z8p : Value} (XA YA ZA XB YB ZB : Option Addr) (xc yc zc xd yd zd : Nat) (a1 a2 : List P5) (a3 : List P4) (b1 b2 : List P5) (b3 : List P4) (X : World) (ba bb br i k : Nat) (xa : Box X ba #[.slice XA a1.length xc, .slice YA a2.length yc, .slice ZA a3.length zc] 30) (xb : Box X bb #[.slice XB b1.length xd, .slice YB b2.length yd, .slice ZB b3.length zd] 30) (W0 : World) (v1 v2 v3 : Value) (o1 o2 : List P5) (o3 : List P4) (rc : RC X (br + 1) br o1 o2 o3 v1 v2 v3) (hB : Below br W0 X) (hs : br + 1 ≤ X.heap.size) (hS : Sl 5 p5cell X X.heap.size YA a2) (hlt : i < a2.length) (hol : o2.length ≤ 15000) (hi : i ≤ 10000) (hcd : (Tryz.f29.body.bind (regionOf 13)) = some cd)
  (hQ : ∀ (y127 y128 y129 y130 y131 y132 y133 y134 y135 y136 y137 y138 : Value) (wo : World) (z7 : Value) (v' : Value), z7 = .int .i64 ((i + 1 : Nat) : Int) → RC wo (br + 1) br o1 (o2 ++ [a2[i]]) o3 v1 v' v3 → Below br W0 wo → br + 1 ≤ wo.heap.size → Q .normal ⟨#[Z0,Z1,.pointer (some ⟨ba, 0, none⟩),.pointer (some ⟨bb, 0, none⟩),Z4,Z5,.pointer (some ⟨br, 0, none⟩),z7,.int .i64 k,Z9,Za,Zb,Zc,Zd,Ze,Zf,Zg,Zh,Zi,Zj,Zk,Zl,Zm,Zn,Zo,Zp,Zq,Zr,Zs,Zt,Zu,Zv,Zw,Zx,Zy,Zz,Z10,Z11,Z12,Z13,Z14,Z15,Z16,Z17,Z18,Z19,Z1a,Z1b,Z1c,Z1d,Z1e,Z1f,Z1g,Z1h,Z1i,Z1j,Z1k,Z1l,Z1m,Z1n,Z1o,Z1p,Z1q,Z1r,Z1s,Z1t,Z1u,Z1v,Z1w,Z1x,Z1y,Z1z,Z20,Z21,Z22,Z23,Z24,Z25,Z26,Z27,Z28,Z29,Z2a,Z2b,Z2c,Z2d,Z2e,Z2f,Z2g,Z2h,Z2i,Z2j,Z2k,Z2l,Z2m,Z2n,Z2o,Z2p,Z2q,Z2r,Z2s,Z2t,Z2u,Z2v,Z2w,Z2x,Z2y,Z2z,Z30,Z31,Z32,Z33,Z34,Z35,Z36,Z37,Z38,Z39,Z3a,Z3b,Z3c,Z3d,Z3e,Z3f,Z3g,Z3h,Z3i,y127,y128,y129,y130,y131,y132,y133,y134,y135,y136,y137,y138,Z3v,Z3w,Z3x,Z3y,Z3z,Z40,Z41,Z42,Z43,Z44,Z45,Z46,Z47,Z48,Z49,Z4a,Z4b,Z4c,Z4d,Z4e,Z4f,Z4g,Z4h,Z4i,Z4j,Z4k,Z4l,Z4m,Z4n,Z4o,Z4p,Z4q,Z4r,Z4s,Z4t,Z4u,Z4v,Z4w,Z4x,Z4y,Z4z,Z50,Z51,Z52,Z53,Z54,Z55,Z56,Z57,Z58,Z59,Z5a,Z5b,Z5c,Z5d,Z5e,Z5f,Z5g,Z5h,Z5i,Z5j,Z5k,Z5l,Z5m,Z5n,Z5o,Z5p,Z5q,Z5r,Z5s,Z5t,Z5u,Z5v,Z5w,Z5x,Z5y,Z5z,Z60,Z61,Z62,Z63,Z64,Z65,Z66,Z67,Z68,Z69,Z6a,Z6b,Z6c,Z6d,Z6e,Z6f,Z6g,Z6h,Z6i,Z6j,Z6k,Z6l,Z6m,Z6n,Z6o,Z6p,Z6q,Z6r,Z6s,Z6t,Z6u,Z6v,Z6w,Z6x,Z6y,Z6z,Z70,Z71,Z72,Z73,Z74,Z75,Z76,Z77,Z78,Z79,Z7a,Z7b,Z7c,Z7d,Z7e,Z7f,Z7g,Z7h,Z7i,Z7j,Z7k,Z7l,Z7m,Z7n,Z7o,Z7p,Z7q,Z7r,Z7s,Z7t,Z7u,Z7v,Z7w,Z7x,Z7y,Z7z,Z80,Z81,Z82,Z83,Z84,Z85,Z86,Z87,Z88,Z89,Z8a,Z8b,Z8c,Z8d,Z8e,Z8f,Z8g,Z8h,Z8i,Z8j,Z8k,Z8l,Z8m,Z8n,Z8o,Z8p], dl⟩ wo) :
  cd.wp Tryz.prog Q ⟨#[Z0,Z1,.pointer (some ⟨ba, 0, none⟩),.pointer (some ⟨bb, 0, none⟩),Z4,Z5,.pointer (some ⟨br, 0, none⟩),.int .i64 i,.int .i64 k,Z9,Za,Zb,Zc,Zd,Ze,Zf,Zg,Zh,Zi,Zj,Zk,Zl,Zm,Zn,Zo,Zp,Zq,Zr,Zs,Zt,Zu,Zv,Zw,Zx,Zy,Zz,Z10,Z11,Z12,Z13,Z14,Z15,Z16,Z17,Z18,Z19,Z1a,Z1b,Z1c,Z1d,Z1e,Z1f,Z1g,Z1h,Z1i,Z1j,Z1k,Z1l,Z1m,Z1n,Z1o,Z1p,Z1q,Z1r,Z1s,Z1t,Z1u,Z1v,Z1w,Z1x,Z1y,Z1z,Z20,Z21,Z22,Z23,Z24,Z25,Z26,Z27,Z28,Z29,Z2a,Z2b,Z2c,Z2d,Z2e,Z2f,Z2g,Z2h,Z2i,Z2j,Z2k,Z2l,Z2m,Z2n,Z2o,Z2p,Z2q,Z2r,Z2s,Z2t,Z2u,Z2v,Z2w,Z2x,Z2y,Z2z,Z30,Z31,Z32,Z33,Z34,Z35,Z36,Z37,Z38,Z39,Z3a,Z3b,Z3c,Z3d,Z3e,Z3f,Z3g,Z3h,Z3i,Z3j,Z3k,Z3l,Z3m,Z3n,Z3o,Z3p,Z3q,Z3r,Z3s,Z3t,Z3u,Z3v,Z3w,Z3x,Z3y,Z3z,Z40,Z41,Z42,Z43,Z44,Z45,Z46,Z47,Z48,Z49,Z4a,Z4b,Z4c,Z4d,Z4e,Z4f,Z4g,Z4h,Z4i,Z4j,Z4k,Z4l,Z4m,Z4n,Z4o,Z4p,Z4q,Z4r,Z4s,Z4t,Z4u,Z4v,Z4w,Z4x,Z4y,Z4z,Z50,Z51,Z52,Z53,Z54,Z55,Z56,Z57,Z58,Z59,Z5a,Z5b,Z5c,Z5d,Z5e,Z5f,Z5g,Z5h,Z5i,Z5j,Z5k,Z5l,Z5m,Z5n,Z5o,Z5p,Z5q,Z5r,Z5s,Z5t,Z5u,Z5v,Z5w,Z5x,Z5y,Z5z,Z60,Z61,Z62,Z63,Z64,Z65,Z66,Z67,Z68,Z69,Z6a,Z6b,Z6c,Z6d,Z6e,Z6f,Z6g,Z6h,Z6i,Z6j,Z6k,Z6l,Z6m,Z6n,Z6o,Z6p,Z6q,Z6r,Z6s,Z6t,Z6u,Z6v,Z6w,Z6x,Z6y,Z6z,Z70,Z71,Z72,Z73,Z74,Z75,Z76,Z77,Z78,Z79,Z7a,Z7b,Z7c,Z7d,Z7e,Z7f,Z7g,Z7h,Z7i,Z7j,Z7k,Z7l,Z7m,Z7n,Z7o,Z7p,Z7q,Z7r,Z7s,Z7t,Z7u,Z7v,Z7w,Z7x,Z7y,Z7z,Z80,Z81,Z82,Z83,Z84,Z85,Z86,Z87,Z88,Z89,Z8a,Z8b,Z8c,Z8d,Z8e,Z8f,Z8g,Z8h,Z8i,Z8j,Z8k,Z8l,Z8m,Z8n,Z8o,Z8p], dl⟩ X := by
 rw [show (Tryz.f29.body.bind (regionOf 13)) = some (Code.region 13 _ true) from rfl] at hcd
 obtain rfl := Option.some.inj hcd
 clear hcd
 dsimp only at hQ ⊢
 obtain ⟨i0, hi0, hz0, hz1, hz2⟩ := info_parts loadInfo
 have Hi := Lib.hid hi0; have Hz0 := Lib.hid hz0; have Hz1 := Lib.hid hz1; have Hz2 := Lib.hid hz2
 clear hi0 hz0 hz1 hz2
 obtain ⟨p0, p1, p2⟩ := xa.c3
 obtain ⟨q0, q1, q2⟩ := xb.c3
 obtain ⟨y0, y1, y2⟩ := rc.box.c3
 have f1 := rc.box.frozen 1
 have la0 := xa.lt
 have lb0 := xb.lt
 have lr0 := rc.box.lt
 have z0 : (0 : Int) ≤ (i : Int) := by omega
 have g1 : (i : Int) < (a2.length : Int) := by omega
 obtain ⟨la, hla, laB, ex0, hq⟩ := hS.sp (by decide) hlt
 have ex1 := hq 1 (by decide) (by decide)
 have ex2 := hq 2 (by decide) (by decide)
 have ex3 := hq 3 (by decide) (by decide)
 have ex4 := hq 4 (by decide) (by decide)
 clear hq
 obtain ⟨x, hx⟩ : ∃ x, a2[i] = x := ⟨_, rfl⟩
 rw [hx] at ex0 ex1 ex2 ex3 ex4 hQ
 clear hx
 replace ex0 : X.cell? (la.add (i * 5)) = some (.int .i64 x.a) := ex0
 replace ex1 : X.cell? (⟨(la.add (i * 5)).block, (la.add (i * 5)).off + 1, none⟩) = some (.int .i64 x.b) := ex1
 replace ex2 : X.cell? (⟨(la.add (i * 5)).block, (la.add (i * 5)).off + 2, none⟩) = some (.int .i64 x.c) := ex2
 replace ex3 : X.cell? (⟨(la.add (i * 5)).block, (la.add (i * 5)).off + 3, none⟩) = some (.int .i64 x.d) := ex3
 replace ex4 : X.cell? (⟨(la.add (i * 5)).block, (la.add (i * 5)).off + 4, none⟩) = some (.int .i64 x.e) := ex4
 clear hS
 subst hla
 have rcd := rc.below (Below.refl X.heap.size X).drew
 have hBd := hB.drew
 have hs3 : br + 1 ≤ X.drew.heap.size := hs
 refine wp_region_noPanic ?_
 go_region_law ((refine step_pushR (w := X.drew) (w0 := W0) (cell := p5cell) (y := x) rfl _ _ _ rfl (br + 1) br 68 i0 _ 40 Tryz.underlying27 Hi.out Hz0.out Hz1.out Hz2.out rfl (by decide) v2 o2.length o2 (by simp [Act.eval]) rcd.l _ _ rfl _ (by simp [Act.eval]; rfl) (p5_one _) (by unfold maxLen; omega) (by omega) hs3 (by omega) hBd ?_; intro v' w' hown' hb' hg'; have b1 := rcd.box.grown hg' (rcd.box.ne_own (by decide) rcd.l); obtain ⟨y0, y1, y2⟩ := b1.c3; have f1 := b1.frozen 1; obtain ⟨g', cap', rfl⟩ := ownsRow_succ hown'))
 all_goals refine NoPanic.normal (hQ _ _ _ _ _ _ _ _ _ _ _ _ _ _ _ (by rw [wrap_small (z := (i : Int) + 1) (by omega) (by omega)]; first | rfl | go_num) (rcd.addL (qs := [x]) (Nat.lt_succ_self _) hown' (by rw [List.length_append]; rfl) hg') (hb'.setCell (p := ⟨br, 1, none⟩) (Nat.le_refl _) _) (by rw [World.size_setCell]; exact Nat.le_trans hs3 hg'.size))
set_option maxHeartbeats 32000000 in
theorem j16_ab1 {Q : Exit → Act → World → Prop} {cd : Code} {dl : List Deferred} {Z0 Z1 Z4 Z5 Z9 Za Zb Zc Zd Ze Zf Zg Zh Zi Zj Zk Zl Zm Zn Zo Zp Zq Zr Zs Zt Zu Zv Zw Zx Zy Zz Z10 Z11 Z12 Z13 Z14 Z15 Z16 Z17 Z18 Z19 Z1a Z1b Z1c Z1d Z1e Z1f Z1g Z1h Z1i Z1j Z1k Z1l Z1m Z1n Z1o Z1p Z1q Z1r Z1s Z1t Z1u Z1v Z1w Z1x Z1y Z1z Z20 Z21 Z22 Z23 Z24 Z25 Z26 Z27 Z28 Z29 Z2a Z2b Z2c Z2d Z2e Z2f Z2g Z2h Z2i Z2j Z2k Z2l Z2m Z2n Z2o Z2p Z2q Z2r Z2s Z2t Z2u Z2v Z2w Z2x Z2y Z2z Z30 Z31 Z32 Z33 Z34 Z35 Z36 Z37 Z38 Z39 Z3a Z3b Z3c Z3d Z3e Z3f Z3g Z3h Z3i Z3j Z3k Z3l Z3m Z3n Z3o Z3p Z3q Z3r Z3s Z3t Z3u Z3v Z3w Z3x Z3y Z3z Z40 Z41 Z42 Z43 Z44 Z45 Z46 Z47 Z48 Z49 Z4a Z4b Z4c Z4d Z4e Z4f Z4g Z4h Z4i Z4j Z4k Z4l Z4m Z4n Z4o Z4p Z4q Z4r Z4s Z4t Z4u Z4v Z4w Z4x Z4y Z4z Z50 Z51 Z52 Z53 Z54 Z55 Z56 Z57 Z58 Z59 Z5a Z5b Z5c Z5d Z5e Z5f Z5g Z5h Z5i Z5j Z5k Z5l Z5m Z5n Z5o Z5p Z5q Z5r Z5s Z5t Z5u Z5v Z5w Z5x Z5y Z5z Z60 Z61 Z62 Z63 Z64 Z65 Z66 Z67 Z68 Z69 Z6a Z6b Z6c Z6d Z6e Z6f Z6g Z6h Z6i Z6j Z6k Z6l Z6m Z6n Z6o Z6p Z6q Z6r Z6s Z6t Z6u Z6v Z6w Z6x Z6y Z6z Z70 Z71 Z72 Z73 Z74 Z75 Z76 Z77 Z78 Z79 Z7a Z7b Z7c Z7d Z7e Z7f Z7g Z7h Z7i Z7j Z7k Z7l Z7m Z7n Z7o Z7p Z7q Z7r Z7s Z7t Z7u Z7v Z7w Z7x Z7y Z7z Z80 Z81 Z82 Z83 Z84 Z85 Z86 Z87 Z88 Z89 Z8a Z8b Z8c Z8d Z8e Z8f Z8g Z8h Z8i Z8j Z8k Z8l Z8m Z8n Z8o Z8p : Value} (XA YA ZA XB YB ZB : Option Addr) (xc yc zc xd yd zd : Nat) (a1 a2 : List P5) (a3 : List P4) (b1 b2 : List P5) (b3 : List P4) (X : World) (ba bb br i k : Nat) (xa : Box X ba #[.slice XA a1.length xc, .slice YA a2.length yc, .slice ZA a3.length zc] 30) (xb : Box X bb #[.slice XB b1.length xd, .slice YB b2.length yd, .slice ZB b3.length zd] 30) (W0 : World) (v1 v2 v3 : Value) (o1 o2 : List P5) (o3 : List P4) (rc : RC X (br + 1) br o1 o2 o3 v1 v2 v3) (hB : Below br W0 X) (hs : br + 1 ≤ X.heap.size) (hS : Sl 5 p5cell X X.heap.size YA a2) (hlt : i < a2.length) (hol : o2.length ≤ 15000) (hi : i ≤ 10000) (hk : k ≤ 10000) (hcd : (Tryz.f29.body.bind (regionOf 17)) = some cd)
  (hQ : ∀ (y198 y199 y200 y201 y202 y203 y204 y205 y206 y207 y208 y209 y210 y211 : Value) (wo : World) (z7 z8 : Value) (v' : Value), z7 = .int .i64 ((i + 1 : Nat) : Int) → z8 = .int .i64 ((k + 1 : Nat) : Int) → RC wo (br + 1) br o1 (o2 ++ [a2[i]]) o3 v1 v' v3 → Below br W0 wo → br + 1 ≤ wo.heap.size → Q .normal ⟨#[Z0,Z1,.pointer (some ⟨ba, 0, none⟩),.pointer (some ⟨bb, 0, none⟩),Z4,Z5,.pointer (some ⟨br, 0, none⟩),z7,z8,Z9,Za,Zb,Zc,Zd,Ze,Zf,Zg,Zh,Zi,Zj,Zk,Zl,Zm,Zn,Zo,Zp,Zq,Zr,Zs,Zt,Zu,Zv,Zw,Zx,Zy,Zz,Z10,Z11,Z12,Z13,Z14,Z15,Z16,Z17,Z18,Z19,Z1a,Z1b,Z1c,Z1d,Z1e,Z1f,Z1g,Z1h,Z1i,Z1j,Z1k,Z1l,Z1m,Z1n,Z1o,Z1p,Z1q,Z1r,Z1s,Z1t,Z1u,Z1v,Z1w,Z1x,Z1y,Z1z,Z20,Z21,Z22,Z23,Z24,Z25,Z26,Z27,Z28,Z29,Z2a,Z2b,Z2c,Z2d,Z2e,Z2f,Z2g,Z2h,Z2i,Z2j,Z2k,Z2l,Z2m,Z2n,Z2o,Z2p,Z2q,Z2r,Z2s,Z2t,Z2u,Z2v,Z2w,Z2x,Z2y,Z2z,Z30,Z31,Z32,Z33,Z34,Z35,Z36,Z37,Z38,Z39,Z3a,Z3b,Z3c,Z3d,Z3e,Z3f,Z3g,Z3h,Z3i,Z3j,Z3k,Z3l,Z3m,Z3n,Z3o,Z3p,Z3q,Z3r,Z3s,Z3t,Z3u,Z3v,Z3w,Z3x,Z3y,Z3z,Z40,Z41,Z42,Z43,Z44,Z45,Z46,Z47,Z48,Z49,Z4a,Z4b,Z4c,Z4d,Z4e,Z4f,Z4g,Z4h,Z4i,Z4j,Z4k,Z4l,Z4m,Z4n,Z4o,Z4p,Z4q,Z4r,Z4s,Z4t,Z4u,Z4v,Z4w,Z4x,Z4y,Z4z,Z50,Z51,Z52,Z53,Z54,Z55,Z56,Z57,Z58,Z59,Z5a,Z5b,Z5c,Z5d,Z5e,Z5f,Z5g,Z5h,y198,y199,y200,y201,y202,y203,y204,y205,y206,y207,y208,y209,y210,y211,Z5w,Z5x,Z5y,Z5z,Z60,Z61,Z62,Z63,Z64,Z65,Z66,Z67,Z68,Z69,Z6a,Z6b,Z6c,Z6d,Z6e,Z6f,Z6g,Z6h,Z6i,Z6j,Z6k,Z6l,Z6m,Z6n,Z6o,Z6p,Z6q,Z6r,Z6s,Z6t,Z6u,Z6v,Z6w,Z6x,Z6y,Z6z,Z70,Z71,Z72,Z73,Z74,Z75,Z76,Z77,Z78,Z79,Z7a,Z7b,Z7c,Z7d,Z7e,Z7f,Z7g,Z7h,Z7i,Z7j,Z7k,Z7l,Z7m,Z7n,Z7o,Z7p,Z7q,Z7r,Z7s,Z7t,Z7u,Z7v,Z7w,Z7x,Z7y,Z7z,Z80,Z81,Z82,Z83,Z84,Z85,Z86,Z87,Z88,Z89,Z8a,Z8b,Z8c,Z8d,Z8e,Z8f,Z8g,Z8h,Z8i,Z8j,Z8k,Z8l,Z8m,Z8n,Z8o,Z8p], dl⟩ wo) :
  cd.wp Tryz.prog Q ⟨#[Z0,Z1,.pointer (some ⟨ba, 0, none⟩),.pointer (some ⟨bb, 0, none⟩),Z4,Z5,.pointer (some ⟨br, 0, none⟩),.int .i64 i,.int .i64 k,Z9,Za,Zb,Zc,Zd,Ze,Zf,Zg,Zh,Zi,Zj,Zk,Zl,Zm,Zn,Zo,Zp,Zq,Zr,Zs,Zt,Zu,Zv,Zw,Zx,Zy,Zz,Z10,Z11,Z12,Z13,Z14,Z15,Z16,Z17,Z18,Z19,Z1a,Z1b,Z1c,Z1d,Z1e,Z1f,Z1g,Z1h,Z1i,Z1j,Z1k,Z1l,Z1m,Z1n,Z1o,Z1p,Z1q,Z1r,Z1s,Z1t,Z1u,Z1v,Z1w,Z1x,Z1y,Z1z,Z20,Z21,Z22,Z23,Z24,Z25,Z26,Z27,Z28,Z29,Z2a,Z2b,Z2c,Z2d,Z2e,Z2f,Z2g,Z2h,Z2i,Z2j,Z2k,Z2l,Z2m,Z2n,Z2o,Z2p,Z2q,Z2r,Z2s,Z2t,Z2u,Z2v,Z2w,Z2x,Z2y,Z2z,Z30,Z31,Z32,Z33,Z34,Z35,Z36,Z37,Z38,Z39,Z3a,Z3b,Z3c,Z3d,Z3e,Z3f,Z3g,Z3h,Z3i,Z3j,Z3k,Z3l,Z3m,Z3n,Z3o,Z3p,Z3q,Z3r,Z3s,Z3t,Z3u,Z3v,Z3w,Z3x,Z3y,Z3z,Z40,Z41,Z42,Z43,Z44,Z45,Z46,Z47,Z48,Z49,Z4a,Z4b,Z4c,Z4d,Z4e,Z4f,Z4g,Z4h,Z4i,Z4j,Z4k,Z4l,Z4m,Z4n,Z4o,Z4p,Z4q,Z4r,Z4s,Z4t,Z4u,Z4v,Z4w,Z4x,Z4y,Z4z,Z50,Z51,Z52,Z53,Z54,Z55,Z56,Z57,Z58,Z59,Z5a,Z5b,Z5c,Z5d,Z5e,Z5f,Z5g,Z5h,Z5i,Z5j,Z5k,Z5l,Z5m,Z5n,Z5o,Z5p,Z5q,Z5r,Z5s,Z5t,Z5u,Z5v,Z5w,Z5x,Z5y,Z5z,Z60,Z61,Z62,Z63,Z64,Z65,Z66,Z67,Z68,Z69,Z6a,Z6b,Z6c,Z6d,Z6e,Z6f,Z6g,Z6h,Z6i,Z6j,Z6k,Z6l,Z6m,Z6n,Z6o,Z6p,Z6q,Z6r,Z6s,Z6t,Z6u,Z6v,Z6w,Z6x,Z6y,Z6z,Z70,Z71,Z72,Z73,Z74,Z75,Z76,Z77,Z78,Z79,Z7a,Z7b,Z7c,Z7d,Z7e,Z7f,Z7g,Z7h,Z7i,Z7j,Z7k,Z7l,Z7m,Z7n,Z7o,Z7p,Z7q,Z7r,Z7s,Z7t,Z7u,Z7v,Z7w,Z7x,Z7y,Z7z,Z80,Z81,Z82,Z83,Z84,Z85,Z86,Z87,Z88,Z89,Z8a,Z8b,Z8c,Z8d,Z8e,Z8f,Z8g,Z8h,Z8i,Z8j,Z8k,Z8l,Z8m,Z8n,Z8o,Z8p], dl⟩ X := by
 rw [show (Tryz.f29.body.bind (regionOf 17)) = some (Code.region 17 _ true) from rfl] at hcd
 obtain rfl := Option.some.inj hcd
 clear hcd
 dsimp only at hQ ⊢
 obtain ⟨i0, hi0, hz0, hz1, hz2⟩ := info_parts loadInfo
 have Hi := Lib.hid hi0; have Hz0 := Lib.hid hz0; have Hz1 := Lib.hid hz1; have Hz2 := Lib.hid hz2
 clear hi0 hz0 hz1 hz2
 obtain ⟨p0, p1, p2⟩ := xa.c3
 obtain ⟨q0, q1, q2⟩ := xb.c3
 obtain ⟨y0, y1, y2⟩ := rc.box.c3
 have f1 := rc.box.frozen 1
 have la0 := xa.lt
 have lb0 := xb.lt
 have lr0 := rc.box.lt
 have z0 : (0 : Int) ≤ (i : Int) := by omega
 have g1 : (i : Int) < (a2.length : Int) := by omega
 obtain ⟨la, hla, laB, ex0, hq⟩ := hS.sp (by decide) hlt
 have ex1 := hq 1 (by decide) (by decide)
 have ex2 := hq 2 (by decide) (by decide)
 have ex3 := hq 3 (by decide) (by decide)
 have ex4 := hq 4 (by decide) (by decide)
 clear hq
 obtain ⟨x, hx⟩ : ∃ x, a2[i] = x := ⟨_, rfl⟩
 rw [hx] at ex0 ex1 ex2 ex3 ex4 hQ
 clear hx
 replace ex0 : X.cell? (la.add (i * 5)) = some (.int .i64 x.a) := ex0
 replace ex1 : X.cell? (⟨(la.add (i * 5)).block, (la.add (i * 5)).off + 1, none⟩) = some (.int .i64 x.b) := ex1
 replace ex2 : X.cell? (⟨(la.add (i * 5)).block, (la.add (i * 5)).off + 2, none⟩) = some (.int .i64 x.c) := ex2
 replace ex3 : X.cell? (⟨(la.add (i * 5)).block, (la.add (i * 5)).off + 3, none⟩) = some (.int .i64 x.d) := ex3
 replace ex4 : X.cell? (⟨(la.add (i * 5)).block, (la.add (i * 5)).off + 4, none⟩) = some (.int .i64 x.e) := ex4
 clear hS
 subst hla
 have rcd := rc.below (Below.refl X.heap.size X).drew
 have hBd := hB.drew
 have hs3 : br + 1 ≤ X.drew.heap.size := hs
 refine wp_region_noPanic ?_
 go_region_law ((refine step_pushR (w := X.drew) (w0 := W0) (cell := p5cell) (y := x) rfl _ _ _ rfl (br + 1) br 68 i0 _ 40 Tryz.underlying27 Hi.out Hz0.out Hz1.out Hz2.out rfl (by decide) v2 o2.length o2 (by simp [Act.eval]) rcd.l _ _ rfl _ (by simp [Act.eval]; rfl) (p5_one _) (by unfold maxLen; omega) (by omega) hs3 (by omega) hBd ?_; intro v' w' hown' hb' hg'; have b1 := rcd.box.grown hg' (rcd.box.ne_own (by decide) rcd.l); obtain ⟨y0, y1, y2⟩ := b1.c3; have f1 := b1.frozen 1; obtain ⟨g', cap', rfl⟩ := ownsRow_succ hown'))
 all_goals refine NoPanic.normal (hQ _ _ _ _ _ _ _ _ _ _ _ _ _ _ _ _ _ _ (by rw [wrap_small (z := (i : Int) + 1) (by omega) (by omega)]; first | rfl | go_num) (by rw [wrap_small (z := (k : Int) + 1) (by omega) (by omega)]; first | rfl | go_num) (rcd.addL (qs := [x]) (Nat.lt_succ_self _) hown' (by rw [List.length_append]; rfl) hg') (hb'.setCell (p := ⟨br, 1, none⟩) (Nat.le_refl _) _) (by rw [World.size_setCell]; exact Nat.le_trans hs3 hg'.size))
end Go.Proofs.YtciolgmljpamlaaGreatDoor
end

section
namespace Go.Proofs.YtciolgmljpamlaaGreatDoor
open Go Go.RowKit
set_option maxRecDepth 100000
set_option maxHeartbeats 32000000 in
theorem j16_a2 {Q : Exit → Act → World → Prop} {cd : Code} {dl : List Deferred} {Z0 Z1 Z4 Z5 Z9 Za Zb Zc Zd Ze Zf Zg Zh Zi Zj Zk Zl Zm Zn Zo Zp Zq Zr Zs Zt Zu Zv Zw Zx Zy Zz Z10 Z11 Z12 Z13 Z14 Z15 Z16 Z17 Z18 Z19 Z1a Z1b Z1c Z1d Z1e Z1f Z1g Z1h Z1i Z1j Z1k Z1l Z1m Z1n Z1o Z1p Z1q Z1r Z1s Z1t Z1u Z1v Z1w Z1x Z1y Z1z Z20 Z21 Z22 Z23 Z24 Z25 Z26 Z27 Z28 Z29 Z2a Z2b Z2c Z2d Z2e Z2f Z2g Z2h Z2i Z2j Z2k Z2l Z2m Z2n Z2o Z2p Z2q Z2r Z2s Z2t Z2u Z2v Z2w Z2x Z2y Z2z Z30 Z31 Z32 Z33 Z34 Z35 Z36 Z37 Z38 Z39 Z3a Z3b Z3c Z3d Z3e Z3f Z3g Z3h Z3i Z3j Z3k Z3l Z3m Z3n Z3o Z3p Z3q Z3r Z3s Z3t Z3u Z3v Z3w Z3x Z3y Z3z Z40 Z41 Z42 Z43 Z44 Z45 Z46 Z47 Z48 Z49 Z4a Z4b Z4c Z4d Z4e Z4f Z4g Z4h Z4i Z4j Z4k Z4l Z4m Z4n Z4o Z4p Z4q Z4r Z4s Z4t Z4u Z4v Z4w Z4x Z4y Z4z Z50 Z51 Z52 Z53 Z54 Z55 Z56 Z57 Z58 Z59 Z5a Z5b Z5c Z5d Z5e Z5f Z5g Z5h Z5i Z5j Z5k Z5l Z5m Z5n Z5o Z5p Z5q Z5r Z5s Z5t Z5u Z5v Z5w Z5x Z5y Z5z Z60 Z61 Z62 Z63 Z64 Z65 Z66 Z67 Z68 Z69 Z6a Z6b Z6c Z6d Z6e Z6f Z6g Z6h Z6i Z6j Z6k Z6l Z6m Z6n Z6o Z6p Z6q Z6r Z6s Z6t Z6u Z6v Z6w Z6x Z6y Z6z Z70 Z71 Z72 Z73 Z74 Z75 Z76 Z77 Z78 Z79 Z7a Z7b Z7c Z7d Z7e Z7f Z7g Z7h Z7i Z7j Z7k Z7l Z7m Z7n Z7o Z7p Z7q Z7r Z7s Z7t Z7u Z7v Z7w Z7x Z7y Z7z Z80 Z81 Z82 Z83 Z84 Z85 Z86 Z87 Z88 Z89 Z8a Z8b Z8c Z8d Z8e Z8f Z8g Z8h Z8i Z8j Z8k Z8l Z8m Z8n Z8o Z8p : Value} (XA YA ZA XB YB ZB : Option Addr) (xc yc zc xd yd zd : Nat) (a1 a2 : List P5) (a3 : List P4) (b1 b2 : List P5) (b3 : List P4) (X : World) (ba bb br i k : Nat) (xa : Box X ba #[.slice XA a1.length xc, .slice YA a2.length yc, .slice ZA a3.length zc] 30) (xb : Box X bb #[.slice XB b1.length xd, .slice YB b2.length yd, .slice ZB b3.length zd] 30) (hA : Sl 4 p4cell X X.heap.size ZA a3) (hB : Sl 4 p4cell X X.heap.size ZB b3) (hi0 : i ≤ a3.length) (hk0 : k ≤ b3.length) (hcd : (Tryz.f29.body.bind (regionOf 21)) = some cd)
  (hQ : ∀ (y237 y238 y239 y240 y241 y242 y243 y244 y245 y246 y247 y248 y249 y250 y251 y252 y253 y254 y255 y256 y257 y258 y259 y260 y261 y262 : Value) (wo : World) (r : Bool), r = M.takeB M.ls4 a3 b3 i k → Below X.heap.size X wo → Q .normal ⟨#[Z0,Z1,.pointer (some ⟨ba, 0, none⟩),.pointer (some ⟨bb, 0, none⟩),Z4,Z5,.pointer (some ⟨br, 0, none⟩),.int .i64 i,.int .i64 k,Z9,Za,Zb,Zc,Zd,Ze,Zf,Zg,Zh,Zi,Zj,Zk,Zl,Zm,Zn,Zo,Zp,Zq,Zr,Zs,Zt,Zu,Zv,Zw,Zx,Zy,Zz,Z10,Z11,Z12,Z13,Z14,Z15,Z16,Z17,Z18,Z19,Z1a,Z1b,Z1c,Z1d,Z1e,Z1f,Z1g,Z1h,Z1i,Z1j,Z1k,Z1l,Z1m,Z1n,Z1o,Z1p,Z1q,Z1r,Z1s,Z1t,Z1u,Z1v,Z1w,Z1x,Z1y,Z1z,Z20,Z21,Z22,Z23,Z24,Z25,Z26,Z27,Z28,Z29,Z2a,Z2b,Z2c,Z2d,Z2e,Z2f,Z2g,Z2h,Z2i,Z2j,Z2k,Z2l,Z2m,Z2n,Z2o,Z2p,Z2q,Z2r,Z2s,Z2t,Z2u,Z2v,Z2w,Z2x,Z2y,Z2z,Z30,Z31,Z32,Z33,Z34,Z35,Z36,Z37,Z38,Z39,Z3a,Z3b,Z3c,Z3d,Z3e,Z3f,Z3g,Z3h,Z3i,Z3j,Z3k,Z3l,Z3m,Z3n,Z3o,Z3p,Z3q,Z3r,Z3s,Z3t,Z3u,Z3v,Z3w,Z3x,Z3y,Z3z,Z40,Z41,Z42,Z43,Z44,Z45,Z46,Z47,Z48,Z49,Z4a,Z4b,Z4c,Z4d,Z4e,Z4f,Z4g,Z4h,Z4i,Z4j,Z4k,Z4l,Z4m,Z4n,Z4o,Z4p,Z4q,Z4r,Z4s,Z4t,Z4u,Z4v,Z4w,Z4x,Z4y,Z4z,Z50,Z51,Z52,Z53,Z54,Z55,Z56,Z57,Z58,Z59,Z5a,Z5b,Z5c,Z5d,Z5e,Z5f,Z5g,Z5h,Z5i,Z5j,Z5k,Z5l,Z5m,Z5n,Z5o,Z5p,Z5q,Z5r,Z5s,Z5t,Z5u,Z5v,Z5w,Z5x,Z5y,Z5z,Z60,Z61,Z62,Z63,Z64,Z65,Z66,Z67,Z68,Z69,Z6a,Z6b,Z6c,Z6d,Z6e,Z6f,Z6g,Z6h,Z6i,Z6j,.bool r,y237,y238,y239,y240,y241,y242,y243,y244,y245,y246,y247,y248,y249,y250,y251,y252,y253,y254,y255,y256,y257,y258,y259,y260,y261,y262,.bool r,Z7c,Z7d,Z7e,Z7f,Z7g,Z7h,Z7i,Z7j,Z7k,Z7l,Z7m,Z7n,Z7o,Z7p,Z7q,Z7r,Z7s,Z7t,Z7u,Z7v,Z7w,Z7x,Z7y,Z7z,Z80,Z81,Z82,Z83,Z84,Z85,Z86,Z87,Z88,Z89,Z8a,Z8b,Z8c,Z8d,Z8e,Z8f,Z8g,Z8h,Z8i,Z8j,Z8k,Z8l,Z8m,Z8n,Z8o,Z8p], dl⟩ wo) :
  cd.wp Tryz.prog Q ⟨#[Z0,Z1,.pointer (some ⟨ba, 0, none⟩),.pointer (some ⟨bb, 0, none⟩),Z4,Z5,.pointer (some ⟨br, 0, none⟩),.int .i64 i,.int .i64 k,Z9,Za,Zb,Zc,Zd,Ze,Zf,Zg,Zh,Zi,Zj,Zk,Zl,Zm,Zn,Zo,Zp,Zq,Zr,Zs,Zt,Zu,Zv,Zw,Zx,Zy,Zz,Z10,Z11,Z12,Z13,Z14,Z15,Z16,Z17,Z18,Z19,Z1a,Z1b,Z1c,Z1d,Z1e,Z1f,Z1g,Z1h,Z1i,Z1j,Z1k,Z1l,Z1m,Z1n,Z1o,Z1p,Z1q,Z1r,Z1s,Z1t,Z1u,Z1v,Z1w,Z1x,Z1y,Z1z,Z20,Z21,Z22,Z23,Z24,Z25,Z26,Z27,Z28,Z29,Z2a,Z2b,Z2c,Z2d,Z2e,Z2f,Z2g,Z2h,Z2i,Z2j,Z2k,Z2l,Z2m,Z2n,Z2o,Z2p,Z2q,Z2r,Z2s,Z2t,Z2u,Z2v,Z2w,Z2x,Z2y,Z2z,Z30,Z31,Z32,Z33,Z34,Z35,Z36,Z37,Z38,Z39,Z3a,Z3b,Z3c,Z3d,Z3e,Z3f,Z3g,Z3h,Z3i,Z3j,Z3k,Z3l,Z3m,Z3n,Z3o,Z3p,Z3q,Z3r,Z3s,Z3t,Z3u,Z3v,Z3w,Z3x,Z3y,Z3z,Z40,Z41,Z42,Z43,Z44,Z45,Z46,Z47,Z48,Z49,Z4a,Z4b,Z4c,Z4d,Z4e,Z4f,Z4g,Z4h,Z4i,Z4j,Z4k,Z4l,Z4m,Z4n,Z4o,Z4p,Z4q,Z4r,Z4s,Z4t,Z4u,Z4v,Z4w,Z4x,Z4y,Z4z,Z50,Z51,Z52,Z53,Z54,Z55,Z56,Z57,Z58,Z59,Z5a,Z5b,Z5c,Z5d,Z5e,Z5f,Z5g,Z5h,Z5i,Z5j,Z5k,Z5l,Z5m,Z5n,Z5o,Z5p,Z5q,Z5r,Z5s,Z5t,Z5u,Z5v,Z5w,Z5x,Z5y,Z5z,Z60,Z61,Z62,Z63,Z64,Z65,Z66,Z67,Z68,Z69,Z6a,Z6b,Z6c,Z6d,Z6e,Z6f,Z6g,Z6h,Z6i,Z6j,Z6k,Z6l,Z6m,Z6n,Z6o,Z6p,Z6q,Z6r,Z6s,Z6t,Z6u,Z6v,Z6w,Z6x,Z6y,Z6z,Z70,Z71,Z72,Z73,Z74,Z75,Z76,Z77,Z78,Z79,Z7a,Z7b,Z7c,Z7d,Z7e,Z7f,Z7g,Z7h,Z7i,Z7j,Z7k,Z7l,Z7m,Z7n,Z7o,Z7p,Z7q,Z7r,Z7s,Z7t,Z7u,Z7v,Z7w,Z7x,Z7y,Z7z,Z80,Z81,Z82,Z83,Z84,Z85,Z86,Z87,Z88,Z89,Z8a,Z8b,Z8c,Z8d,Z8e,Z8f,Z8g,Z8h,Z8i,Z8j,Z8k,Z8l,Z8m,Z8n,Z8o,Z8p], dl⟩ X := by
 rw [show (Tryz.f29.body.bind (regionOf 21)) = some (Code.region 21 _ true) from rfl] at hcd
 obtain rfl := Option.some.inj hcd
 clear hcd
 dsimp only at hQ ⊢
 obtain ⟨p0, p1, p2⟩ := xa.c3
 obtain ⟨q0, q1, q2⟩ := xb.c3
 have la0 := xa.lt
 have lb0 := xb.lt
 have z0 : (0 : Int) ≤ (i : Int) := by omega
 have z1 : (0 : Int) ≤ (k : Int) := by omega
 by_cases hi : i < a3.length
 case neg =>
  have HF := Lib.hid (M.takeB_hi (f := M.ls4) (b := b3) (k := k) hi)
  have qe : ((i : Int) == (a3.length : Int)) = true := by simp; omega
  have qe' : (i == a3.length) = true := by simp; omega
  clear hi hA hB
  refine wp_region_kept X.heap.size X (by kernel_rfl) (by kernel_rfl) (Below.refl _ _) ?_
  repeat (go_big_quiet_step (fail))
  refine wpQuiet_nil ?_
  rintro w5 ⟨⟨w5x, hb5⟩, hw5⟩
  dsimp only at hw5
  subst hw5
  exact hQ _ _ _ _ _ _ _ _ _ _ _ _ _ _ _ _ _ _ _ _ _ _ _ _ _ _ _ true HF.out.symm hb5
 have qe : ((i : Int) == (a3.length : Int)) = false := by simp; omega
 have qe' : (i == a3.length) = false := by simp; omega
 by_cases hk : k < b3.length
 case neg =>
  have HF := Lib.hid (M.takeB_no (f := M.ls4) hi hk)
  have qk : decide ((k : Int) < (b3.length : Int)) = false := decide_eq_false (by omega)
  have qk' : decide (k < b3.length) = false := decide_eq_false hk
  clear hi hk hA hB
  refine wp_region_kept X.heap.size X (by kernel_rfl) (by kernel_rfl) (Below.refl _ _) ?_
  repeat (go_big_quiet_step (fail))
  refine wpQuiet_nil ?_
  rintro w5 ⟨⟨w5x, hb5⟩, hw5⟩
  dsimp only at hw5
  subst hw5
  exact hQ _ _ _ _ _ _ _ _ _ _ _ _ _ _ _ _ _ _ _ _ _ _ _ _ _ _ _ false HF.out.symm hb5
 have qk : decide ((k : Int) < (b3.length : Int)) = true := decide_eq_true (by omega)
 have qk' : decide (k < b3.length) = true := decide_eq_true hk
 have g1 : (k : Int) < (b3.length : Int) := by omega
 have g2 : (i : Int) < (a3.length : Int) := by omega
 obtain ⟨la, hla, laB, ex0, hq⟩ := hA.sp (by decide) hi
 have ex1 := hq 1 (by decide) (by decide)
 have ex2 := hq 2 (by decide) (by decide)
 have ex3 := hq 3 (by decide) (by decide)
 clear hq
 obtain ⟨lb, hlb, lbB, ey0, hq⟩ := hB.sp (by decide) hk
 have ey1 := hq 1 (by decide) (by decide)
 have ey2 := hq 2 (by decide) (by decide)
 have ey3 := hq 3 (by decide) (by decide)
 clear hq
 have HT := Lib.hid (M.takeB_at (f := M.ls4) hi hk)
 obtain ⟨x, hx⟩ : ∃ x, a3[i] = x := ⟨_, rfl⟩
 rw [hx] at ex0 ex1 ex2 ex3 HT
 clear hx
 replace ex0 : X.cell? (la.add (i * 4)) = some (.int .i64 x.a) := ex0
 replace ex1 : X.cell? (⟨(la.add (i * 4)).block, (la.add (i * 4)).off + 1, none⟩) = some (.int .i64 x.b) := ex1
 replace ex2 : X.cell? (⟨(la.add (i * 4)).block, (la.add (i * 4)).off + 2, none⟩) = some (.int .i64 x.c) := ex2
 replace ex3 : X.cell? (⟨(la.add (i * 4)).block, (la.add (i * 4)).off + 3, none⟩) = some (.int .i64 x.d) := ex3
 obtain ⟨y, hy⟩ : ∃ x, b3[k] = x := ⟨_, rfl⟩
 rw [hy] at ey0 ey1 ey2 ey3 HT
 clear hy
 replace ey0 : X.cell? (lb.add (k * 4)) = some (.int .i64 y.a) := ey0
 replace ey1 : X.cell? (⟨(lb.add (k * 4)).block, (lb.add (k * 4)).off + 1, none⟩) = some (.int .i64 y.b) := ey1
 replace ey2 : X.cell? (⟨(lb.add (k * 4)).block, (lb.add (k * 4)).off + 2, none⟩) = some (.int .i64 y.c) := ey2
 replace ey3 : X.cell? (⟨(lb.add (k * 4)).block, (lb.add (k * 4)).off + 3, none⟩) = some (.int .i64 y.d) := ey3
 have hel : ∀ wx, Below X.heap.size X wx → wx.cell? ⟨ba, 2, none⟩ = some (.slice ZA a3.length zc) ∧ wx.cell? ⟨bb, 2, none⟩ = some (.slice ZB b3.length zd) ∧ wx.cell? (la.add (i * 4)) = some (.int .i64 x.a) ∧ wx.cell? (⟨(la.add (i * 4)).block, (la.add (i * 4)).off + 1, none⟩) = some (.int .i64 x.b) ∧ wx.cell? (⟨(la.add (i * 4)).block, (la.add (i * 4)).off + 2, none⟩) = some (.int .i64 x.c) ∧ wx.cell? (⟨(la.add (i * 4)).block, (la.add (i * 4)).off + 3, none⟩) = some (.int .i64 x.d) ∧ wx.cell? (lb.add (k * 4)) = some (.int .i64 y.a) ∧ wx.cell? (⟨(lb.add (k * 4)).block, (lb.add (k * 4)).off + 1, none⟩) = some (.int .i64 y.b) ∧ wx.cell? (⟨(lb.add (k * 4)).block, (lb.add (k * 4)).off + 2, none⟩) = some (.int .i64 y.c) ∧ wx.cell? (⟨(lb.add (k * 4)).block, (lb.add (k * 4)).off + 3, none⟩) = some (.int .i64 y.d) := fun wx hbx => by
  exact ⟨(xa.below hbx).c3.2.2, (xb.below hbx).c3.2.2, (hbx.cell (p := la.add (i * 4)) laB).trans ex0, (hbx.cell (p := ⟨(la.add (i * 4)).block, (la.add (i * 4)).off + 1, none⟩) laB).trans ex1, (hbx.cell (p := ⟨(la.add (i * 4)).block, (la.add (i * 4)).off + 2, none⟩) laB).trans ex2, (hbx.cell (p := ⟨(la.add (i * 4)).block, (la.add (i * 4)).off + 3, none⟩) laB).trans ex3, (hbx.cell (p := lb.add (k * 4)) lbB).trans ey0, (hbx.cell (p := ⟨(lb.add (k * 4)).block, (lb.add (k * 4)).off + 1, none⟩) lbB).trans ey1, (hbx.cell (p := ⟨(lb.add (k * 4)).block, (lb.add (k * 4)).off + 2, none⟩) lbB).trans ey2, (hbx.cell (p := ⟨(lb.add (k * 4)).block, (lb.add (k * 4)).off + 3, none⟩) lbB).trans ey3⟩
 have hc : Below X.heap.size X X.drew := (Below.refl _ _).drew
 have h5 := hel _ hc
 have h6 := hel _ (Below.refl _ _)
 have hls : ∃ r, M.lessI y.l x.l = r := ⟨_, rfl⟩
 obtain ⟨r, hls⟩ := hls
 rw [show M.ls4 y x = M.lessI y.l x.l from rfl, hls] at HT
 have kX : Hid (∀ wx, Calls Tryz.prog 62 #[p4v x] wx (RetS 1 icell wx x.l)) := Lib.hid (fun wx => limit16_any x wx)
 have kY : Hid (∀ wx, Calls Tryz.prog 62 #[p4v y] wx (RetS 1 icell wx y.l)) := Lib.hid (fun wx => limit16_any y wx)
 have kL : Hid (∀ wx PA QA pc qc, Sl 1 icell wx wx.heap.size PA y.l → Sl 1 icell wx wx.heap.size QA x.l → Calls Tryz.prog 59 #[.slice PA y.l.length pc, .slice QA x.l.length qc] wx fun e w' => e = .returned (.bool r) ∧ Below wx.heap.size wx w') := Lib.hid (fun wx PA QA pc qc h1 h2 => by rw [← hls]; exact less16_any PA QA pc qc y.l x.l wx h1 h2 rfl (by show 4 ≤ 1000; decide))
 clear hls hi hk hA hB
 subst hla
 subst hlb
 go_region_held3 (fun w' => w'.cell? ⟨ba, 2, none⟩ = some (.slice (some la) a3.length zc) ∧ w'.cell? ⟨bb, 2, none⟩ = some (.slice (some lb) b3.length zd) ∧ w'.cell? (la.add (i * 4)) = some (.int .i64 x.a) ∧ w'.cell? (⟨(la.add (i * 4)).block, (la.add (i * 4)).off + 1, none⟩) = some (.int .i64 x.b) ∧ w'.cell? (⟨(la.add (i * 4)).block, (la.add (i * 4)).off + 2, none⟩) = some (.int .i64 x.c) ∧ w'.cell? (⟨(la.add (i * 4)).block, (la.add (i * 4)).off + 3, none⟩) = some (.int .i64 x.d) ∧ w'.cell? (lb.add (k * 4)) = some (.int .i64 y.a) ∧ w'.cell? (⟨(lb.add (k * 4)).block, (lb.add (k * 4)).off + 1, none⟩) = some (.int .i64 y.b) ∧ w'.cell? (⟨(lb.add (k * 4)).block, (lb.add (k * 4)).off + 2, none⟩) = some (.int .i64 y.c) ∧ w'.cell? (⟨(lb.add (k * 4)).block, (lb.add (k * 4)).off + 3, none⟩) = some (.int .i64 y.d)) (first | with_reducible exact h5 | with_reducible exact h6 | with_reducible exact hel _ hc)
  (first
   | (go_at_call 62; ((with_reducible refine (kY.out _).mono ?_); rintro e wa ⟨PA, pc, rfl, SA, hba⟩; replace hc := hc.trans (hba.mono hc.size); clear hba))
   | (go_at_call 62; ((with_reducible refine (kX.out _).mono ?_); rintro e wb ⟨QA, qc, rfl, SB, hbb⟩; replace SA := (SA.below hbb).more hbb.size; replace hc := hc.trans (hbb.mono hc.size); clear hbb))
   | (go_at_call 59; ((with_reducible refine (kL.out _ PA QA pc qc SA SB).mono ?_); rintro e wd ⟨rfl, hbd⟩; replace hc := hc.trans (hbd.mono hc.size); clear hbd)))
 all_goals exact hQ _ _ _ _ _ _ _ _ _ _ _ _ _ _ _ _ _ _ _ _ _ _ _ _ _ _ _ r HT.out.symm hc
set_option maxHeartbeats 32000000 in
theorem j16_e2 {Q : Exit → Act → World → Prop} {cd : Code} {dl : List Deferred} {Z0 Z1 Z4 Z5 Z9 Za Zb Zc Zd Ze Zf Zg Zh Zi Zj Zk Zl Zm Zn Zo Zp Zq Zr Zs Zt Zu Zv Zw Zx Zy Zz Z10 Z11 Z12 Z13 Z14 Z15 Z16 Z17 Z18 Z19 Z1a Z1b Z1c Z1d Z1e Z1f Z1g Z1h Z1i Z1j Z1k Z1l Z1m Z1n Z1o Z1p Z1q Z1r Z1s Z1t Z1u Z1v Z1w Z1x Z1y Z1z Z20 Z21 Z22 Z23 Z24 Z25 Z26 Z27 Z28 Z29 Z2a Z2b Z2c Z2d Z2e Z2f Z2g Z2h Z2i Z2j Z2k Z2l Z2m Z2n Z2o Z2p Z2q Z2r Z2s Z2t Z2u Z2v Z2w Z2x Z2y Z2z Z30 Z31 Z32 Z33 Z34 Z35 Z36 Z37 Z38 Z39 Z3a Z3b Z3c Z3d Z3e Z3f Z3g Z3h Z3i Z3j Z3k Z3l Z3m Z3n Z3o Z3p Z3q Z3r Z3s Z3t Z3u Z3v Z3w Z3x Z3y Z3z Z40 Z41 Z42 Z43 Z44 Z45 Z46 Z47 Z48 Z49 Z4a Z4b Z4c Z4d Z4e Z4f Z4g Z4h Z4i Z4j Z4k Z4l Z4m Z4n Z4o Z4p Z4q Z4r Z4s Z4t Z4u Z4v Z4w Z4x Z4y Z4z Z50 Z51 Z52 Z53 Z54 Z55 Z56 Z57 Z58 Z59 Z5a Z5b Z5c Z5d Z5e Z5f Z5g Z5h Z5i Z5j Z5k Z5l Z5m Z5n Z5o Z5p Z5q Z5r Z5s Z5t Z5u Z5v Z5w Z5x Z5y Z5z Z60 Z61 Z62 Z63 Z64 Z65 Z66 Z67 Z68 Z69 Z6a Z6b Z6c Z6d Z6e Z6f Z6g Z6h Z6i Z6j Z6k Z6l Z6m Z6n Z6o Z6p Z6q Z6r Z6s Z6t Z6u Z6v Z6w Z6x Z6y Z6z Z70 Z71 Z72 Z73 Z74 Z75 Z76 Z77 Z78 Z79 Z7a Z7b Z7c Z7d Z7e Z7f Z7g Z7h Z7i Z7j Z7k Z7l Z7m Z7n Z7o Z7p Z7q Z7r Z7s Z7t Z7u Z7v Z7w Z7x Z7y Z7z Z80 Z81 Z82 Z83 Z84 Z85 Z86 Z87 Z88 Z89 Z8a Z8b Z8c Z8d Z8e Z8f Z8g Z8h Z8i Z8j Z8k Z8l Z8m Z8n Z8o Z8p : Value} (XA YA ZA XB YB ZB : Option Addr) (xc yc zc xd yd zd : Nat) (a1 a2 : List P5) (a3 : List P4) (b1 b2 : List P5) (b3 : List P4) (X : World) (ba bb br i k : Nat) (xa : Box X ba #[.slice XA a1.length xc, .slice YA a2.length yc, .slice ZA a3.length zc] 30) (xb : Box X bb #[.slice XB b1.length xd, .slice YB b2.length yd, .slice ZB b3.length zd] 30) (hA : Sl 4 p4cell X X.heap.size ZA a3) (hB : Sl 4 p4cell X X.heap.size ZB b3) (hi : i < a3.length) (hcd : (Tryz.f29.body.bind (regionOf 23)) = some cd)
  (hQ : ∀ (y277 y278 y279 y280 y281 y282 y283 y284 y285 y286 y287 y288 y289 y290 y291 y292 y293 : Value) (wo : World) (r : Bool), r = M.takeE a3 b3 i k → Below X.heap.size X wo → Q .normal ⟨#[Z0,Z1,.pointer (some ⟨ba, 0, none⟩),.pointer (some ⟨bb, 0, none⟩),Z4,Z5,.pointer (some ⟨br, 0, none⟩),.int .i64 i,.int .i64 k,Z9,Za,Zb,Zc,Zd,Ze,Zf,Zg,Zh,Zi,Zj,Zk,Zl,Zm,Zn,Zo,Zp,Zq,Zr,Zs,Zt,Zu,Zv,Zw,Zx,Zy,Zz,Z10,Z11,Z12,Z13,Z14,Z15,Z16,Z17,Z18,Z19,Z1a,Z1b,Z1c,Z1d,Z1e,Z1f,Z1g,Z1h,Z1i,Z1j,Z1k,Z1l,Z1m,Z1n,Z1o,Z1p,Z1q,Z1r,Z1s,Z1t,Z1u,Z1v,Z1w,Z1x,Z1y,Z1z,Z20,Z21,Z22,Z23,Z24,Z25,Z26,Z27,Z28,Z29,Z2a,Z2b,Z2c,Z2d,Z2e,Z2f,Z2g,Z2h,Z2i,Z2j,Z2k,Z2l,Z2m,Z2n,Z2o,Z2p,Z2q,Z2r,Z2s,Z2t,Z2u,Z2v,Z2w,Z2x,Z2y,Z2z,Z30,Z31,Z32,Z33,Z34,Z35,Z36,Z37,Z38,Z39,Z3a,Z3b,Z3c,Z3d,Z3e,Z3f,Z3g,Z3h,Z3i,Z3j,Z3k,Z3l,Z3m,Z3n,Z3o,Z3p,Z3q,Z3r,Z3s,Z3t,Z3u,Z3v,Z3w,Z3x,Z3y,Z3z,Z40,Z41,Z42,Z43,Z44,Z45,Z46,Z47,Z48,Z49,Z4a,Z4b,Z4c,Z4d,Z4e,Z4f,Z4g,Z4h,Z4i,Z4j,Z4k,Z4l,Z4m,Z4n,Z4o,Z4p,Z4q,Z4r,Z4s,Z4t,Z4u,Z4v,Z4w,Z4x,Z4y,Z4z,Z50,Z51,Z52,Z53,Z54,Z55,Z56,Z57,Z58,Z59,Z5a,Z5b,Z5c,Z5d,Z5e,Z5f,Z5g,Z5h,Z5i,Z5j,Z5k,Z5l,Z5m,Z5n,Z5o,Z5p,Z5q,Z5r,Z5s,Z5t,Z5u,Z5v,Z5w,Z5x,Z5y,Z5z,Z60,Z61,Z62,Z63,Z64,Z65,Z66,Z67,Z68,Z69,Z6a,Z6b,Z6c,Z6d,Z6e,Z6f,Z6g,Z6h,Z6i,Z6j,Z6k,Z6l,Z6m,Z6n,Z6o,Z6p,Z6q,Z6r,Z6s,Z6t,Z6u,Z6v,Z6w,Z6x,Z6y,Z6z,Z70,Z71,Z72,Z73,Z74,Z75,Z76,Z77,Z78,Z79,Z7a,Z7b,Z7c,Z7d,Z7e,Z7f,Z7g,Z7h,Z7i,Z7j,Z7k,Z7l,Z7m,Z7n,.bool r,y277,y278,y279,y280,y281,y282,y283,y284,y285,y286,y287,y288,y289,y290,y291,y292,y293,.bool r,Z87,Z88,Z89,Z8a,Z8b,Z8c,Z8d,Z8e,Z8f,Z8g,Z8h,Z8i,Z8j,Z8k,Z8l,Z8m,Z8n,Z8o,Z8p], dl⟩ wo) :
  cd.wp Tryz.prog Q ⟨#[Z0,Z1,.pointer (some ⟨ba, 0, none⟩),.pointer (some ⟨bb, 0, none⟩),Z4,Z5,.pointer (some ⟨br, 0, none⟩),.int .i64 i,.int .i64 k,Z9,Za,Zb,Zc,Zd,Ze,Zf,Zg,Zh,Zi,Zj,Zk,Zl,Zm,Zn,Zo,Zp,Zq,Zr,Zs,Zt,Zu,Zv,Zw,Zx,Zy,Zz,Z10,Z11,Z12,Z13,Z14,Z15,Z16,Z17,Z18,Z19,Z1a,Z1b,Z1c,Z1d,Z1e,Z1f,Z1g,Z1h,Z1i,Z1j,Z1k,Z1l,Z1m,Z1n,Z1o,Z1p,Z1q,Z1r,Z1s,Z1t,Z1u,Z1v,Z1w,Z1x,Z1y,Z1z,Z20,Z21,Z22,Z23,Z24,Z25,Z26,Z27,Z28,Z29,Z2a,Z2b,Z2c,Z2d,Z2e,Z2f,Z2g,Z2h,Z2i,Z2j,Z2k,Z2l,Z2m,Z2n,Z2o,Z2p,Z2q,Z2r,Z2s,Z2t,Z2u,Z2v,Z2w,Z2x,Z2y,Z2z,Z30,Z31,Z32,Z33,Z34,Z35,Z36,Z37,Z38,Z39,Z3a,Z3b,Z3c,Z3d,Z3e,Z3f,Z3g,Z3h,Z3i,Z3j,Z3k,Z3l,Z3m,Z3n,Z3o,Z3p,Z3q,Z3r,Z3s,Z3t,Z3u,Z3v,Z3w,Z3x,Z3y,Z3z,Z40,Z41,Z42,Z43,Z44,Z45,Z46,Z47,Z48,Z49,Z4a,Z4b,Z4c,Z4d,Z4e,Z4f,Z4g,Z4h,Z4i,Z4j,Z4k,Z4l,Z4m,Z4n,Z4o,Z4p,Z4q,Z4r,Z4s,Z4t,Z4u,Z4v,Z4w,Z4x,Z4y,Z4z,Z50,Z51,Z52,Z53,Z54,Z55,Z56,Z57,Z58,Z59,Z5a,Z5b,Z5c,Z5d,Z5e,Z5f,Z5g,Z5h,Z5i,Z5j,Z5k,Z5l,Z5m,Z5n,Z5o,Z5p,Z5q,Z5r,Z5s,Z5t,Z5u,Z5v,Z5w,Z5x,Z5y,Z5z,Z60,Z61,Z62,Z63,Z64,Z65,Z66,Z67,Z68,Z69,Z6a,Z6b,Z6c,Z6d,Z6e,Z6f,Z6g,Z6h,Z6i,Z6j,Z6k,Z6l,Z6m,Z6n,Z6o,Z6p,Z6q,Z6r,Z6s,Z6t,Z6u,Z6v,Z6w,Z6x,Z6y,Z6z,Z70,Z71,Z72,Z73,Z74,Z75,Z76,Z77,Z78,Z79,Z7a,Z7b,Z7c,Z7d,Z7e,Z7f,Z7g,Z7h,Z7i,Z7j,Z7k,Z7l,Z7m,Z7n,Z7o,Z7p,Z7q,Z7r,Z7s,Z7t,Z7u,Z7v,Z7w,Z7x,Z7y,Z7z,Z80,Z81,Z82,Z83,Z84,Z85,Z86,Z87,Z88,Z89,Z8a,Z8b,Z8c,Z8d,Z8e,Z8f,Z8g,Z8h,Z8i,Z8j,Z8k,Z8l,Z8m,Z8n,Z8o,Z8p], dl⟩ X := by
 rw [show (Tryz.f29.body.bind (regionOf 23)) = some (Code.region 23 _ true) from rfl] at hcd
 obtain rfl := Option.some.inj hcd
 clear hcd
 dsimp only at hQ ⊢
 obtain ⟨p0, p1, p2⟩ := xa.c3
 obtain ⟨q0, q1, q2⟩ := xb.c3
 have la0 := xa.lt
 have lb0 := xb.lt
 have z0 : (0 : Int) ≤ (i : Int) := by omega
 have z1 : (0 : Int) ≤ (k : Int) := by omega
 have g2 : (i : Int) < (a3.length : Int) := by omega
 by_cases hk : k < b3.length
 case neg =>
  have HF := Lib.hid (M.takeE_no (a := a3) (i := i) hk)
  have qk : decide ((k : Int) < (b3.length : Int)) = false := decide_eq_false (by omega)
  have qk' : decide (k < b3.length) = false := decide_eq_false hk
  clear hk hA hB
  refine wp_region_kept X.heap.size X (by kernel_rfl) (by kernel_rfl) (Below.refl _ _) ?_
  repeat (go_big_quiet_step (fail))
  refine wpQuiet_nil ?_
  rintro w5 ⟨⟨w5x, hb5⟩, hw5⟩
  dsimp only at hw5
  subst hw5
  exact hQ _ _ _ _ _ _ _ _ _ _ _ _ _ _ _ _ _ _ false HF.out.symm hb5
 have qk : decide ((k : Int) < (b3.length : Int)) = true := decide_eq_true (by omega)
 have qk' : decide (k < b3.length) = true := decide_eq_true hk
 have g1 : (k : Int) < (b3.length : Int) := by omega
 obtain ⟨la, hla, laB, ex0, hq⟩ := hA.sp (by decide) hi
 have ex1 := hq 1 (by decide) (by decide)
 have ex2 := hq 2 (by decide) (by decide)
 have ex3 := hq 3 (by decide) (by decide)
 clear hq
 obtain ⟨lb, hlb, lbB, ey0, hq⟩ := hB.sp (by decide) hk
 have ey1 := hq 1 (by decide) (by decide)
 have ey2 := hq 2 (by decide) (by decide)
 have ey3 := hq 3 (by decide) (by decide)
 clear hq
 have HT := Lib.hid (M.takeE_at hi hk)
 obtain ⟨x, hx⟩ : ∃ x, a3[i] = x := ⟨_, rfl⟩
 rw [hx] at ex0 ex1 ex2 ex3 HT
 clear hx
 replace ex0 : X.cell? (la.add (i * 4)) = some (.int .i64 x.a) := ex0
 replace ex1 : X.cell? (⟨(la.add (i * 4)).block, (la.add (i * 4)).off + 1, none⟩) = some (.int .i64 x.b) := ex1
 replace ex2 : X.cell? (⟨(la.add (i * 4)).block, (la.add (i * 4)).off + 2, none⟩) = some (.int .i64 x.c) := ex2
 replace ex3 : X.cell? (⟨(la.add (i * 4)).block, (la.add (i * 4)).off + 3, none⟩) = some (.int .i64 x.d) := ex3
 obtain ⟨y, hy⟩ : ∃ x, b3[k] = x := ⟨_, rfl⟩
 rw [hy] at ey0 ey1 ey2 ey3 HT
 clear hy
 replace ey0 : X.cell? (lb.add (k * 4)) = some (.int .i64 y.a) := ey0
 replace ey1 : X.cell? (⟨(lb.add (k * 4)).block, (lb.add (k * 4)).off + 1, none⟩) = some (.int .i64 y.b) := ey1
 replace ey2 : X.cell? (⟨(lb.add (k * 4)).block, (lb.add (k * 4)).off + 2, none⟩) = some (.int .i64 y.c) := ey2
 replace ey3 : X.cell? (⟨(lb.add (k * 4)).block, (lb.add (k * 4)).off + 3, none⟩) = some (.int .i64 y.d) := ey3
 clear hi hk hA hB
 subst hla
 subst hlb
 obtain ⟨u0, u1, u2, u3⟩ := x
 obtain ⟨t0, t1, t2, t3⟩ := y
 dsimp only at ex0 ey0 ex1 ey1 ex2 ey2 ex3 ey3
 by_cases h0 : u0 = t0
 case neg =>
  have HF := Lib.hid (HT.out.trans (decide_eq_false (fun e => h0 (by injection e))))
  refine wp_region_kept X.heap.size X (by kernel_rfl) (by kernel_rfl) (Below.refl _ _) ?_
  repeat (go_big_quiet_step (fail))
  refine wpQuiet_nil ?_
  rintro w5 ⟨⟨w5x, hb5⟩, hw5⟩
  dsimp only at hw5
  subst hw5
  exact hQ _ _ _ _ _ _ _ _ _ _ _ _ _ _ _ _ _ _ false HF.out.symm hb5
 subst h0
 by_cases h1 : u1 = t1
 case neg =>
  have HF := Lib.hid (HT.out.trans (decide_eq_false (fun e => h1 (by injection e))))
  refine wp_region_kept X.heap.size X (by kernel_rfl) (by kernel_rfl) (Below.refl _ _) ?_
  repeat (go_big_quiet_step (fail))
  refine wpQuiet_nil ?_
  rintro w5 ⟨⟨w5x, hb5⟩, hw5⟩
  dsimp only at hw5
  subst hw5
  exact hQ _ _ _ _ _ _ _ _ _ _ _ _ _ _ _ _ _ _ false HF.out.symm hb5
 subst h1
 by_cases h2 : u2 = t2
 case neg =>
  have HF := Lib.hid (HT.out.trans (decide_eq_false (fun e => h2 (by injection e))))
  refine wp_region_kept X.heap.size X (by kernel_rfl) (by kernel_rfl) (Below.refl _ _) ?_
  repeat (go_big_quiet_step (fail))
  refine wpQuiet_nil ?_
  rintro w5 ⟨⟨w5x, hb5⟩, hw5⟩
  dsimp only at hw5
  subst hw5
  exact hQ _ _ _ _ _ _ _ _ _ _ _ _ _ _ _ _ _ _ false HF.out.symm hb5
 subst h2
 by_cases h3 : u3 = t3
 case neg =>
  have HF := Lib.hid (HT.out.trans (decide_eq_false (fun e => h3 (by injection e))))
  refine wp_region_kept X.heap.size X (by kernel_rfl) (by kernel_rfl) (Below.refl _ _) ?_
  repeat (go_big_quiet_step (fail))
  refine wpQuiet_nil ?_
  rintro w5 ⟨⟨w5x, hb5⟩, hw5⟩
  dsimp only at hw5
  subst hw5
  exact hQ _ _ _ _ _ _ _ _ _ _ _ _ _ _ _ _ _ _ false HF.out.symm hb5
 subst h3
 have HF := Lib.hid (HT.out.trans (decide_eq_true rfl))
 refine wp_region_kept X.heap.size X (by kernel_rfl) (by kernel_rfl) (Below.refl _ _) ?_
 repeat (go_big_quiet_step (fail))
 refine wpQuiet_nil ?_
 rintro w5 ⟨⟨w5x, hb5⟩, hw5⟩
 dsimp only at hw5
 subst hw5
 exact hQ _ _ _ _ _ _ _ _ _ _ _ _ _ _ _ _ _ _ true HF.out.symm hb5
set_option maxHeartbeats 32000000 in
theorem j16_b2 {Q : Exit → Act → World → Prop} {cd : Code} {dl : List Deferred} {Z0 Z1 Z4 Z5 Z9 Za Zb Zc Zd Ze Zf Zg Zh Zi Zj Zk Zl Zm Zn Zo Zp Zq Zr Zs Zt Zu Zv Zw Zx Zy Zz Z10 Z11 Z12 Z13 Z14 Z15 Z16 Z17 Z18 Z19 Z1a Z1b Z1c Z1d Z1e Z1f Z1g Z1h Z1i Z1j Z1k Z1l Z1m Z1n Z1o Z1p Z1q Z1r Z1s Z1t Z1u Z1v Z1w Z1x Z1y Z1z Z20 Z21 Z22 Z23 Z24 Z25 Z26 Z27 Z28 Z29 Z2a Z2b Z2c Z2d Z2e Z2f Z2g Z2h Z2i Z2j Z2k Z2l Z2m Z2n Z2o Z2p Z2q Z2r Z2s Z2t Z2u Z2v Z2w Z2x Z2y Z2z Z30 Z31 Z32 Z33 Z34 Z35 Z36 Z37 Z38 Z39 Z3a Z3b Z3c Z3d Z3e Z3f Z3g Z3h Z3i Z3j Z3k Z3l Z3m Z3n Z3o Z3p Z3q Z3r Z3s Z3t Z3u Z3v Z3w Z3x Z3y Z3z Z40 Z41 Z42 Z43 Z44 Z45 Z46 Z47 Z48 Z49 Z4a Z4b Z4c Z4d Z4e Z4f Z4g Z4h Z4i Z4j Z4k Z4l Z4m Z4n Z4o Z4p Z4q Z4r Z4s Z4t Z4u Z4v Z4w Z4x Z4y Z4z Z50 Z51 Z52 Z53 Z54 Z55 Z56 Z57 Z58 Z59 Z5a Z5b Z5c Z5d Z5e Z5f Z5g Z5h Z5i Z5j Z5k Z5l Z5m Z5n Z5o Z5p Z5q Z5r Z5s Z5t Z5u Z5v Z5w Z5x Z5y Z5z Z60 Z61 Z62 Z63 Z64 Z65 Z66 Z67 Z68 Z69 Z6a Z6b Z6c Z6d Z6e Z6f Z6g Z6h Z6i Z6j Z6k Z6l Z6m Z6n Z6o Z6p Z6q Z6r Z6s Z6t Z6u Z6v Z6w Z6x Z6y Z6z Z70 Z71 Z72 Z73 Z74 Z75 Z76 Z77 Z78 Z79 Z7a Z7b Z7c Z7d Z7e Z7f Z7g Z7h Z7i Z7j Z7k Z7l Z7m Z7n Z7o Z7p Z7q Z7r Z7s Z7t Z7u Z7v Z7w Z7x Z7y Z7z Z80 Z81 Z82 Z83 Z84 Z85 Z86 Z87 Z88 Z89 Z8a Z8b Z8c Z8d Z8e Z8f Z8g Z8h Z8i Z8j Z8k Z8l Z8m Z8n Z8o Z8p : Value} (XA YA ZA XB YB ZB : Option Addr) (xc yc zc xd yd zd : Nat) (a1 a2 : List P5) (a3 : List P4) (b1 b2 : List P5) (b3 : List P4) (X : World) (ba bb br i k : Nat) (xa : Box X ba #[.slice XA a1.length xc, .slice YA a2.length yc, .slice ZA a3.length zc] 30) (xb : Box X bb #[.slice XB b1.length xd, .slice YB b2.length yd, .slice ZB b3.length zd] 30) (W0 : World) (v1 v2 v3 : Value) (o1 o2 : List P5) (o3 : List P4) (rc : RC X (br + 1) br o1 o2 o3 v1 v2 v3) (hB : Below br W0 X) (hs : br + 1 ≤ X.heap.size) (hS : Sl 4 p4cell X X.heap.size ZB b3) (hlt : k < b3.length) (hol : o3.length ≤ 15000) (hk : k ≤ 10000) (hcd : (Tryz.f29.body.bind (regionOf 22)) = some cd)
  (hQ : ∀ (y264 y265 y266 y267 y268 y269 y270 y271 y272 y273 y274 y275 : Value) (wo : World) (z8 : Value) (v' : Value), z8 = .int .i64 ((k + 1 : Nat) : Int) → RC wo (br + 1) br o1 o2 (o3 ++ [b3[k]]) v1 v2 v' → Below br W0 wo → br + 1 ≤ wo.heap.size → Q .normal ⟨#[Z0,Z1,.pointer (some ⟨ba, 0, none⟩),.pointer (some ⟨bb, 0, none⟩),Z4,Z5,.pointer (some ⟨br, 0, none⟩),.int .i64 i,z8,Z9,Za,Zb,Zc,Zd,Ze,Zf,Zg,Zh,Zi,Zj,Zk,Zl,Zm,Zn,Zo,Zp,Zq,Zr,Zs,Zt,Zu,Zv,Zw,Zx,Zy,Zz,Z10,Z11,Z12,Z13,Z14,Z15,Z16,Z17,Z18,Z19,Z1a,Z1b,Z1c,Z1d,Z1e,Z1f,Z1g,Z1h,Z1i,Z1j,Z1k,Z1l,Z1m,Z1n,Z1o,Z1p,Z1q,Z1r,Z1s,Z1t,Z1u,Z1v,Z1w,Z1x,Z1y,Z1z,Z20,Z21,Z22,Z23,Z24,Z25,Z26,Z27,Z28,Z29,Z2a,Z2b,Z2c,Z2d,Z2e,Z2f,Z2g,Z2h,Z2i,Z2j,Z2k,Z2l,Z2m,Z2n,Z2o,Z2p,Z2q,Z2r,Z2s,Z2t,Z2u,Z2v,Z2w,Z2x,Z2y,Z2z,Z30,Z31,Z32,Z33,Z34,Z35,Z36,Z37,Z38,Z39,Z3a,Z3b,Z3c,Z3d,Z3e,Z3f,Z3g,Z3h,Z3i,Z3j,Z3k,Z3l,Z3m,Z3n,Z3o,Z3p,Z3q,Z3r,Z3s,Z3t,Z3u,Z3v,Z3w,Z3x,Z3y,Z3z,Z40,Z41,Z42,Z43,Z44,Z45,Z46,Z47,Z48,Z49,Z4a,Z4b,Z4c,Z4d,Z4e,Z4f,Z4g,Z4h,Z4i,Z4j,Z4k,Z4l,Z4m,Z4n,Z4o,Z4p,Z4q,Z4r,Z4s,Z4t,Z4u,Z4v,Z4w,Z4x,Z4y,Z4z,Z50,Z51,Z52,Z53,Z54,Z55,Z56,Z57,Z58,Z59,Z5a,Z5b,Z5c,Z5d,Z5e,Z5f,Z5g,Z5h,Z5i,Z5j,Z5k,Z5l,Z5m,Z5n,Z5o,Z5p,Z5q,Z5r,Z5s,Z5t,Z5u,Z5v,Z5w,Z5x,Z5y,Z5z,Z60,Z61,Z62,Z63,Z64,Z65,Z66,Z67,Z68,Z69,Z6a,Z6b,Z6c,Z6d,Z6e,Z6f,Z6g,Z6h,Z6i,Z6j,Z6k,Z6l,Z6m,Z6n,Z6o,Z6p,Z6q,Z6r,Z6s,Z6t,Z6u,Z6v,Z6w,Z6x,Z6y,Z6z,Z70,Z71,Z72,Z73,Z74,Z75,Z76,Z77,Z78,Z79,Z7a,Z7b,y264,y265,y266,y267,y268,y269,y270,y271,y272,y273,y274,y275,Z7o,Z7p,Z7q,Z7r,Z7s,Z7t,Z7u,Z7v,Z7w,Z7x,Z7y,Z7z,Z80,Z81,Z82,Z83,Z84,Z85,Z86,Z87,Z88,Z89,Z8a,Z8b,Z8c,Z8d,Z8e,Z8f,Z8g,Z8h,Z8i,Z8j,Z8k,Z8l,Z8m,Z8n,Z8o,Z8p], dl⟩ wo) :
  cd.wp Tryz.prog Q ⟨#[Z0,Z1,.pointer (some ⟨ba, 0, none⟩),.pointer (some ⟨bb, 0, none⟩),Z4,Z5,.pointer (some ⟨br, 0, none⟩),.int .i64 i,.int .i64 k,Z9,Za,Zb,Zc,Zd,Ze,Zf,Zg,Zh,Zi,Zj,Zk,Zl,Zm,Zn,Zo,Zp,Zq,Zr,Zs,Zt,Zu,Zv,Zw,Zx,Zy,Zz,Z10,Z11,Z12,Z13,Z14,Z15,Z16,Z17,Z18,Z19,Z1a,Z1b,Z1c,Z1d,Z1e,Z1f,Z1g,Z1h,Z1i,Z1j,Z1k,Z1l,Z1m,Z1n,Z1o,Z1p,Z1q,Z1r,Z1s,Z1t,Z1u,Z1v,Z1w,Z1x,Z1y,Z1z,Z20,Z21,Z22,Z23,Z24,Z25,Z26,Z27,Z28,Z29,Z2a,Z2b,Z2c,Z2d,Z2e,Z2f,Z2g,Z2h,Z2i,Z2j,Z2k,Z2l,Z2m,Z2n,Z2o,Z2p,Z2q,Z2r,Z2s,Z2t,Z2u,Z2v,Z2w,Z2x,Z2y,Z2z,Z30,Z31,Z32,Z33,Z34,Z35,Z36,Z37,Z38,Z39,Z3a,Z3b,Z3c,Z3d,Z3e,Z3f,Z3g,Z3h,Z3i,Z3j,Z3k,Z3l,Z3m,Z3n,Z3o,Z3p,Z3q,Z3r,Z3s,Z3t,Z3u,Z3v,Z3w,Z3x,Z3y,Z3z,Z40,Z41,Z42,Z43,Z44,Z45,Z46,Z47,Z48,Z49,Z4a,Z4b,Z4c,Z4d,Z4e,Z4f,Z4g,Z4h,Z4i,Z4j,Z4k,Z4l,Z4m,Z4n,Z4o,Z4p,Z4q,Z4r,Z4s,Z4t,Z4u,Z4v,Z4w,Z4x,Z4y,Z4z,Z50,Z51,Z52,Z53,Z54,Z55,Z56,Z57,Z58,Z59,Z5a,Z5b,Z5c,Z5d,Z5e,Z5f,Z5g,Z5h,Z5i,Z5j,Z5k,Z5l,Z5m,Z5n,Z5o,Z5p,Z5q,Z5r,Z5s,Z5t,Z5u,Z5v,Z5w,Z5x,Z5y,Z5z,Z60,Z61,Z62,Z63,Z64,Z65,Z66,Z67,Z68,Z69,Z6a,Z6b,Z6c,Z6d,Z6e,Z6f,Z6g,Z6h,Z6i,Z6j,Z6k,Z6l,Z6m,Z6n,Z6o,Z6p,Z6q,Z6r,Z6s,Z6t,Z6u,Z6v,Z6w,Z6x,Z6y,Z6z,Z70,Z71,Z72,Z73,Z74,Z75,Z76,Z77,Z78,Z79,Z7a,Z7b,Z7c,Z7d,Z7e,Z7f,Z7g,Z7h,Z7i,Z7j,Z7k,Z7l,Z7m,Z7n,Z7o,Z7p,Z7q,Z7r,Z7s,Z7t,Z7u,Z7v,Z7w,Z7x,Z7y,Z7z,Z80,Z81,Z82,Z83,Z84,Z85,Z86,Z87,Z88,Z89,Z8a,Z8b,Z8c,Z8d,Z8e,Z8f,Z8g,Z8h,Z8i,Z8j,Z8k,Z8l,Z8m,Z8n,Z8o,Z8p], dl⟩ X := by
 rw [show (Tryz.f29.body.bind (regionOf 22)) = some (Code.region 22 _ true) from rfl] at hcd
 obtain rfl := Option.some.inj hcd
 clear hcd
 dsimp only at hQ ⊢
 obtain ⟨i0, hi0, hz0, hz1, hz2⟩ := info_parts capInfo
 have Hi := Lib.hid hi0; have Hz0 := Lib.hid hz0; have Hz1 := Lib.hid hz1; have Hz2 := Lib.hid hz2
 clear hi0 hz0 hz1 hz2
 obtain ⟨p0, p1, p2⟩ := xa.c3
 obtain ⟨q0, q1, q2⟩ := xb.c3
 obtain ⟨y0, y1, y2⟩ := rc.box.c3
 have f2 := rc.box.frozen 2
 have la0 := xa.lt
 have lb0 := xb.lt
 have lr0 := rc.box.lt
 have z0 : (0 : Int) ≤ (k : Int) := by omega
 have g1 : (k : Int) < (b3.length : Int) := by omega
 obtain ⟨la, hla, laB, ex0, hq⟩ := hS.sp (by decide) hlt
 have ex1 := hq 1 (by decide) (by decide)
 have ex2 := hq 2 (by decide) (by decide)
 have ex3 := hq 3 (by decide) (by decide)
 clear hq
 obtain ⟨x, hx⟩ : ∃ x, b3[k] = x := ⟨_, rfl⟩
 rw [hx] at ex0 ex1 ex2 ex3 hQ
 clear hx
 replace ex0 : X.cell? (la.add (k * 4)) = some (.int .i64 x.a) := ex0
 replace ex1 : X.cell? (⟨(la.add (k * 4)).block, (la.add (k * 4)).off + 1, none⟩) = some (.int .i64 x.b) := ex1
 replace ex2 : X.cell? (⟨(la.add (k * 4)).block, (la.add (k * 4)).off + 2, none⟩) = some (.int .i64 x.c) := ex2
 replace ex3 : X.cell? (⟨(la.add (k * 4)).block, (la.add (k * 4)).off + 3, none⟩) = some (.int .i64 x.d) := ex3
 clear hS
 subst hla
 have rcd := rc.below (Below.refl X.heap.size X).drew
 have hBd := hB.drew
 have hs3 : br + 1 ≤ X.drew.heap.size := hs
 refine wp_region_noPanic ?_
 go_region_law ((refine step_pushR (w := X.drew) (w0 := W0) (cell := p4cell) (y := x) rfl _ _ _ rfl (br + 1) br 71 i0 _ 32 Tryz.underlying28 Hi.out Hz0.out Hz1.out Hz2.out rfl (by decide) v3 o3.length o3 (by simp [Act.eval]) rcd.c _ _ rfl _ (by simp [Act.eval]; rfl) (p4_one _) (by unfold maxLen; omega) (by omega) hs3 (by omega) hBd ?_; intro v' w' hown' hb' hg'; have b1 := rcd.box.grown hg' (rcd.box.ne_own (by decide) rcd.c); obtain ⟨y0, y1, y2⟩ := b1.c3; have f2 := b1.frozen 2; obtain ⟨g', cap', rfl⟩ := ownsRow_succ hown'))
 all_goals refine NoPanic.normal (hQ _ _ _ _ _ _ _ _ _ _ _ _ _ _ _ (by rw [wrap_small (z := (k : Int) + 1) (by omega) (by omega)]; first | rfl | go_num) (rcd.addC (qs := [x]) (Nat.lt_succ_self _) hown' (by rw [List.length_append]; rfl) hg') (hb'.setCell (p := ⟨br, 2, none⟩) (Nat.le_refl _) _) (by rw [World.size_setCell]; exact Nat.le_trans hs3 hg'.size))
set_option maxHeartbeats 32000000 in
theorem j16_d2 {Q : Exit → Act → World → Prop} {cd : Code} {dl : List Deferred} {Z0 Z1 Z4 Z5 Z9 Za Zb Zc Zd Ze Zf Zg Zh Zi Zj Zk Zl Zm Zn Zo Zp Zq Zr Zs Zt Zu Zv Zw Zx Zy Zz Z10 Z11 Z12 Z13 Z14 Z15 Z16 Z17 Z18 Z19 Z1a Z1b Z1c Z1d Z1e Z1f Z1g Z1h Z1i Z1j Z1k Z1l Z1m Z1n Z1o Z1p Z1q Z1r Z1s Z1t Z1u Z1v Z1w Z1x Z1y Z1z Z20 Z21 Z22 Z23 Z24 Z25 Z26 Z27 Z28 Z29 Z2a Z2b Z2c Z2d Z2e Z2f Z2g Z2h Z2i Z2j Z2k Z2l Z2m Z2n Z2o Z2p Z2q Z2r Z2s Z2t Z2u Z2v Z2w Z2x Z2y Z2z Z30 Z31 Z32 Z33 Z34 Z35 Z36 Z37 Z38 Z39 Z3a Z3b Z3c Z3d Z3e Z3f Z3g Z3h Z3i Z3j Z3k Z3l Z3m Z3n Z3o Z3p Z3q Z3r Z3s Z3t Z3u Z3v Z3w Z3x Z3y Z3z Z40 Z41 Z42 Z43 Z44 Z45 Z46 Z47 Z48 Z49 Z4a Z4b Z4c Z4d Z4e Z4f Z4g Z4h Z4i Z4j Z4k Z4l Z4m Z4n Z4o Z4p Z4q Z4r Z4s Z4t Z4u Z4v Z4w Z4x Z4y Z4z Z50 Z51 Z52 Z53 Z54 Z55 Z56 Z57 Z58 Z59 Z5a Z5b Z5c Z5d Z5e Z5f Z5g Z5h Z5i Z5j Z5k Z5l Z5m Z5n Z5o Z5p Z5q Z5r Z5s Z5t Z5u Z5v Z5w Z5x Z5y Z5z Z60 Z61 Z62 Z63 Z64 Z65 Z66 Z67 Z68 Z69 Z6a Z6b Z6c Z6d Z6e Z6f Z6g Z6h Z6i Z6j Z6k Z6l Z6m Z6n Z6o Z6p Z6q Z6r Z6s Z6t Z6u Z6v Z6w Z6x Z6y Z6z Z70 Z71 Z72 Z73 Z74 Z75 Z76 Z77 Z78 Z79 Z7a Z7b Z7c Z7d Z7e Z7f Z7g Z7h Z7i Z7j Z7k Z7l Z7m Z7n Z7o Z7p Z7q Z7r Z7s Z7t Z7u Z7v Z7w Z7x Z7y Z7z Z80 Z81 Z82 Z83 Z84 Z85 Z86 Z87 Z88 Z89 Z8a Z8b Z8c Z8d Z8e Z8f Z8g Z8h Z8i Z8j Z8k Z8l Z8m Z8n Z8o Z8p : Value} (XA YA ZA XB YB ZB : Option Addr) (xc yc zc xd yd zd : Nat) (a1 a2 : List P5) (a3 : List P4) (b1 b2 : List P5) (b3 : List P4) (X : World) (ba bb br i k : Nat) (xa : Box X ba #[.slice XA a1.length xc, .slice YA a2.length yc, .slice ZA a3.length zc] 30) (xb : Box X bb #[.slice XB b1.length xd, .slice YB b2.length yd, .slice ZB b3.length zd] 30) (W0 : World) (v1 v2 v3 : Value) (o1 o2 : List P5) (o3 : List P4) (rc : RC X (br + 1) br o1 o2 o3 v1 v2 v3) (hB : Below br W0 X) (hs : br + 1 ≤ X.heap.size) (hS : Sl 4 p4cell X X.heap.size ZA a3) (hlt : i < a3.length) (hol : o3.length ≤ 15000) (hi : i ≤ 10000) (hcd : (Tryz.f29.body.bind (regionOf 20)) = some cd)
  (hQ : ∀ (y224 y225 y226 y227 y228 y229 y230 y231 y232 y233 y234 y235 : Value) (wo : World) (z7 : Value) (v' : Value), z7 = .int .i64 ((i + 1 : Nat) : Int) → RC wo (br + 1) br o1 o2 (o3 ++ [a3[i]]) v1 v2 v' → Below br W0 wo → br + 1 ≤ wo.heap.size → Q .normal ⟨#[Z0,Z1,.pointer (some ⟨ba, 0, none⟩),.pointer (some ⟨bb, 0, none⟩),Z4,Z5,.pointer (some ⟨br, 0, none⟩),z7,.int .i64 k,Z9,Za,Zb,Zc,Zd,Ze,Zf,Zg,Zh,Zi,Zj,Zk,Zl,Zm,Zn,Zo,Zp,Zq,Zr,Zs,Zt,Zu,Zv,Zw,Zx,Zy,Zz,Z10,Z11,Z12,Z13,Z14,Z15,Z16,Z17,Z18,Z19,Z1a,Z1b,Z1c,Z1d,Z1e,Z1f,Z1g,Z1h,Z1i,Z1j,Z1k,Z1l,Z1m,Z1n,Z1o,Z1p,Z1q,Z1r,Z1s,Z1t,Z1u,Z1v,Z1w,Z1x,Z1y,Z1z,Z20,Z21,Z22,Z23,Z24,Z25,Z26,Z27,Z28,Z29,Z2a,Z2b,Z2c,Z2d,Z2e,Z2f,Z2g,Z2h,Z2i,Z2j,Z2k,Z2l,Z2m,Z2n,Z2o,Z2p,Z2q,Z2r,Z2s,Z2t,Z2u,Z2v,Z2w,Z2x,Z2y,Z2z,Z30,Z31,Z32,Z33,Z34,Z35,Z36,Z37,Z38,Z39,Z3a,Z3b,Z3c,Z3d,Z3e,Z3f,Z3g,Z3h,Z3i,Z3j,Z3k,Z3l,Z3m,Z3n,Z3o,Z3p,Z3q,Z3r,Z3s,Z3t,Z3u,Z3v,Z3w,Z3x,Z3y,Z3z,Z40,Z41,Z42,Z43,Z44,Z45,Z46,Z47,Z48,Z49,Z4a,Z4b,Z4c,Z4d,Z4e,Z4f,Z4g,Z4h,Z4i,Z4j,Z4k,Z4l,Z4m,Z4n,Z4o,Z4p,Z4q,Z4r,Z4s,Z4t,Z4u,Z4v,Z4w,Z4x,Z4y,Z4z,Z50,Z51,Z52,Z53,Z54,Z55,Z56,Z57,Z58,Z59,Z5a,Z5b,Z5c,Z5d,Z5e,Z5f,Z5g,Z5h,Z5i,Z5j,Z5k,Z5l,Z5m,Z5n,Z5o,Z5p,Z5q,Z5r,Z5s,Z5t,Z5u,Z5v,Z5w,Z5x,Z5y,Z5z,Z60,Z61,Z62,Z63,Z64,Z65,Z66,Z67,y224,y225,y226,y227,y228,y229,y230,y231,y232,y233,y234,y235,Z6k,Z6l,Z6m,Z6n,Z6o,Z6p,Z6q,Z6r,Z6s,Z6t,Z6u,Z6v,Z6w,Z6x,Z6y,Z6z,Z70,Z71,Z72,Z73,Z74,Z75,Z76,Z77,Z78,Z79,Z7a,Z7b,Z7c,Z7d,Z7e,Z7f,Z7g,Z7h,Z7i,Z7j,Z7k,Z7l,Z7m,Z7n,Z7o,Z7p,Z7q,Z7r,Z7s,Z7t,Z7u,Z7v,Z7w,Z7x,Z7y,Z7z,Z80,Z81,Z82,Z83,Z84,Z85,Z86,Z87,Z88,Z89,Z8a,Z8b,Z8c,Z8d,Z8e,Z8f,Z8g,Z8h,Z8i,Z8j,Z8k,Z8l,Z8m,Z8n,Z8o,Z8p], dl⟩ wo) :
  cd.wp Tryz.prog Q ⟨#[Z0,Z1,.pointer (some ⟨ba, 0, none⟩),.pointer (some ⟨bb, 0, none⟩),Z4,Z5,.pointer (some ⟨br, 0, none⟩),.int .i64 i,.int .i64 k,Z9,Za,Zb,Zc,Zd,Ze,Zf,Zg,Zh,Zi,Zj,Zk,Zl,Zm,Zn,Zo,Zp,Zq,Zr,Zs,Zt,Zu,Zv,Zw,Zx,Zy,Zz,Z10,Z11,Z12,Z13,Z14,Z15,Z16,Z17,Z18,Z19,Z1a,Z1b,Z1c,Z1d,Z1e,Z1f,Z1g,Z1h,Z1i,Z1j,Z1k,Z1l,Z1m,Z1n,Z1o,Z1p,Z1q,Z1r,Z1s,Z1t,Z1u,Z1v,Z1w,Z1x,Z1y,Z1z,Z20,Z21,Z22,Z23,Z24,Z25,Z26,Z27,Z28,Z29,Z2a,Z2b,Z2c,Z2d,Z2e,Z2f,Z2g,Z2h,Z2i,Z2j,Z2k,Z2l,Z2m,Z2n,Z2o,Z2p,Z2q,Z2r,Z2s,Z2t,Z2u,Z2v,Z2w,Z2x,Z2y,Z2z,Z30,Z31,Z32,Z33,Z34,Z35,Z36,Z37,Z38,Z39,Z3a,Z3b,Z3c,Z3d,Z3e,Z3f,Z3g,Z3h,Z3i,Z3j,Z3k,Z3l,Z3m,Z3n,Z3o,Z3p,Z3q,Z3r,Z3s,Z3t,Z3u,Z3v,Z3w,Z3x,Z3y,Z3z,Z40,Z41,Z42,Z43,Z44,Z45,Z46,Z47,Z48,Z49,Z4a,Z4b,Z4c,Z4d,Z4e,Z4f,Z4g,Z4h,Z4i,Z4j,Z4k,Z4l,Z4m,Z4n,Z4o,Z4p,Z4q,Z4r,Z4s,Z4t,Z4u,Z4v,Z4w,Z4x,Z4y,Z4z,Z50,Z51,Z52,Z53,Z54,Z55,Z56,Z57,Z58,Z59,Z5a,Z5b,Z5c,Z5d,Z5e,Z5f,Z5g,Z5h,Z5i,Z5j,Z5k,Z5l,Z5m,Z5n,Z5o,Z5p,Z5q,Z5r,Z5s,Z5t,Z5u,Z5v,Z5w,Z5x,Z5y,Z5z,Z60,Z61,Z62,Z63,Z64,Z65,Z66,Z67,Z68,Z69,Z6a,Z6b,Z6c,Z6d,Z6e,Z6f,Z6g,Z6h,Z6i,Z6j,Z6k,Z6l,Z6m,Z6n,Z6o,Z6p,Z6q,Z6r,Z6s,Z6t,Z6u,Z6v,Z6w,Z6x,Z6y,Z6z,Z70,Z71,Z72,Z73,Z74,Z75,Z76,Z77,Z78,Z79,Z7a,Z7b,Z7c,Z7d,Z7e,Z7f,Z7g,Z7h,Z7i,Z7j,Z7k,Z7l,Z7m,Z7n,Z7o,Z7p,Z7q,Z7r,Z7s,Z7t,Z7u,Z7v,Z7w,Z7x,Z7y,Z7z,Z80,Z81,Z82,Z83,Z84,Z85,Z86,Z87,Z88,Z89,Z8a,Z8b,Z8c,Z8d,Z8e,Z8f,Z8g,Z8h,Z8i,Z8j,Z8k,Z8l,Z8m,Z8n,Z8o,Z8p], dl⟩ X := by
 rw [show (Tryz.f29.body.bind (regionOf 20)) = some (Code.region 20 _ true) from rfl] at hcd
 obtain rfl := Option.some.inj hcd
 clear hcd
 dsimp only at hQ ⊢
 obtain ⟨i0, hi0, hz0, hz1, hz2⟩ := info_parts capInfo
 have Hi := Lib.hid hi0; have Hz0 := Lib.hid hz0; have Hz1 := Lib.hid hz1; have Hz2 := Lib.hid hz2
 clear hi0 hz0 hz1 hz2
 obtain ⟨p0, p1, p2⟩ := xa.c3
 obtain ⟨q0, q1, q2⟩ := xb.c3
 obtain ⟨y0, y1, y2⟩ := rc.box.c3
 have f2 := rc.box.frozen 2
 have la0 := xa.lt
 have lb0 := xb.lt
 have lr0 := rc.box.lt
 have z0 : (0 : Int) ≤ (i : Int) := by omega
 have g1 : (i : Int) < (a3.length : Int) := by omega
 obtain ⟨la, hla, laB, ex0, hq⟩ := hS.sp (by decide) hlt
 have ex1 := hq 1 (by decide) (by decide)
 have ex2 := hq 2 (by decide) (by decide)
 have ex3 := hq 3 (by decide) (by decide)
 clear hq
 obtain ⟨x, hx⟩ : ∃ x, a3[i] = x := ⟨_, rfl⟩
 rw [hx] at ex0 ex1 ex2 ex3 hQ
 clear hx
 replace ex0 : X.cell? (la.add (i * 4)) = some (.int .i64 x.a) := ex0
 replace ex1 : X.cell? (⟨(la.add (i * 4)).block, (la.add (i * 4)).off + 1, none⟩) = some (.int .i64 x.b) := ex1
 replace ex2 : X.cell? (⟨(la.add (i * 4)).block, (la.add (i * 4)).off + 2, none⟩) = some (.int .i64 x.c) := ex2
 replace ex3 : X.cell? (⟨(la.add (i * 4)).block, (la.add (i * 4)).off + 3, none⟩) = some (.int .i64 x.d) := ex3
 clear hS
 subst hla
 have rcd := rc.below (Below.refl X.heap.size X).drew
 have hBd := hB.drew
 have hs3 : br + 1 ≤ X.drew.heap.size := hs
 refine wp_region_noPanic ?_
 go_region_law ((refine step_pushR (w := X.drew) (w0 := W0) (cell := p4cell) (y := x) rfl _ _ _ rfl (br + 1) br 71 i0 _ 32 Tryz.underlying28 Hi.out Hz0.out Hz1.out Hz2.out rfl (by decide) v3 o3.length o3 (by simp [Act.eval]) rcd.c _ _ rfl _ (by simp [Act.eval]; rfl) (p4_one _) (by unfold maxLen; omega) (by omega) hs3 (by omega) hBd ?_; intro v' w' hown' hb' hg'; have b1 := rcd.box.grown hg' (rcd.box.ne_own (by decide) rcd.c); obtain ⟨y0, y1, y2⟩ := b1.c3; have f2 := b1.frozen 2; obtain ⟨g', cap', rfl⟩ := ownsRow_succ hown'))
 all_goals refine NoPanic.normal (hQ _ _ _ _ _ _ _ _ _ _ _ _ _ _ _ (by rw [wrap_small (z := (i : Int) + 1) (by omega) (by omega)]; first | rfl | go_num) (rcd.addC (qs := [x]) (Nat.lt_succ_self _) hown' (by rw [List.length_append]; rfl) hg') (hb'.setCell (p := ⟨br, 2, none⟩) (Nat.le_refl _) _) (by rw [World.size_setCell]; exact Nat.le_trans hs3 hg'.size))
set_option maxHeartbeats 32000000 in
theorem j16_ab2 {Q : Exit → Act → World → Prop} {cd : Code} {dl : List Deferred} {Z0 Z1 Z4 Z5 Z9 Za Zb Zc Zd Ze Zf Zg Zh Zi Zj Zk Zl Zm Zn Zo Zp Zq Zr Zs Zt Zu Zv Zw Zx Zy Zz Z10 Z11 Z12 Z13 Z14 Z15 Z16 Z17 Z18 Z19 Z1a Z1b Z1c Z1d Z1e Z1f Z1g Z1h Z1i Z1j Z1k Z1l Z1m Z1n Z1o Z1p Z1q Z1r Z1s Z1t Z1u Z1v Z1w Z1x Z1y Z1z Z20 Z21 Z22 Z23 Z24 Z25 Z26 Z27 Z28 Z29 Z2a Z2b Z2c Z2d Z2e Z2f Z2g Z2h Z2i Z2j Z2k Z2l Z2m Z2n Z2o Z2p Z2q Z2r Z2s Z2t Z2u Z2v Z2w Z2x Z2y Z2z Z30 Z31 Z32 Z33 Z34 Z35 Z36 Z37 Z38 Z39 Z3a Z3b Z3c Z3d Z3e Z3f Z3g Z3h Z3i Z3j Z3k Z3l Z3m Z3n Z3o Z3p Z3q Z3r Z3s Z3t Z3u Z3v Z3w Z3x Z3y Z3z Z40 Z41 Z42 Z43 Z44 Z45 Z46 Z47 Z48 Z49 Z4a Z4b Z4c Z4d Z4e Z4f Z4g Z4h Z4i Z4j Z4k Z4l Z4m Z4n Z4o Z4p Z4q Z4r Z4s Z4t Z4u Z4v Z4w Z4x Z4y Z4z Z50 Z51 Z52 Z53 Z54 Z55 Z56 Z57 Z58 Z59 Z5a Z5b Z5c Z5d Z5e Z5f Z5g Z5h Z5i Z5j Z5k Z5l Z5m Z5n Z5o Z5p Z5q Z5r Z5s Z5t Z5u Z5v Z5w Z5x Z5y Z5z Z60 Z61 Z62 Z63 Z64 Z65 Z66 Z67 Z68 Z69 Z6a Z6b Z6c Z6d Z6e Z6f Z6g Z6h Z6i Z6j Z6k Z6l Z6m Z6n Z6o Z6p Z6q Z6r Z6s Z6t Z6u Z6v Z6w Z6x Z6y Z6z Z70 Z71 Z72 Z73 Z74 Z75 Z76 Z77 Z78 Z79 Z7a Z7b Z7c Z7d Z7e Z7f Z7g Z7h Z7i Z7j Z7k Z7l Z7m Z7n Z7o Z7p Z7q Z7r Z7s Z7t Z7u Z7v Z7w Z7x Z7y Z7z Z80 Z81 Z82 Z83 Z84 Z85 Z86 Z87 Z88 Z89 Z8a Z8b Z8c Z8d Z8e Z8f Z8g Z8h Z8i Z8j Z8k Z8l Z8m Z8n Z8o Z8p : Value} (XA YA ZA XB YB ZB : Option Addr) (xc yc zc xd yd zd : Nat) (a1 a2 : List P5) (a3 : List P4) (b1 b2 : List P5) (b3 : List P4) (X : World) (ba bb br i k : Nat) (xa : Box X ba #[.slice XA a1.length xc, .slice YA a2.length yc, .slice ZA a3.length zc] 30) (xb : Box X bb #[.slice XB b1.length xd, .slice YB b2.length yd, .slice ZB b3.length zd] 30) (W0 : World) (v1 v2 v3 : Value) (o1 o2 : List P5) (o3 : List P4) (rc : RC X (br + 1) br o1 o2 o3 v1 v2 v3) (hB : Below br W0 X) (hs : br + 1 ≤ X.heap.size) (hS : Sl 4 p4cell X X.heap.size ZA a3) (hlt : i < a3.length) (hol : o3.length ≤ 15000) (hi : i ≤ 10000) (hk : k ≤ 10000) (hcd : (Tryz.f29.body.bind (regionOf 24)) = some cd)
  (hQ : ∀ (y295 y296 y297 y298 y299 y300 y301 y302 y303 y304 y305 y306 y307 y308 : Value) (wo : World) (z7 z8 : Value) (v' : Value), z7 = .int .i64 ((i + 1 : Nat) : Int) → z8 = .int .i64 ((k + 1 : Nat) : Int) → RC wo (br + 1) br o1 o2 (o3 ++ [a3[i]]) v1 v2 v' → Below br W0 wo → br + 1 ≤ wo.heap.size → Q .normal ⟨#[Z0,Z1,.pointer (some ⟨ba, 0, none⟩),.pointer (some ⟨bb, 0, none⟩),Z4,Z5,.pointer (some ⟨br, 0, none⟩),z7,z8,Z9,Za,Zb,Zc,Zd,Ze,Zf,Zg,Zh,Zi,Zj,Zk,Zl,Zm,Zn,Zo,Zp,Zq,Zr,Zs,Zt,Zu,Zv,Zw,Zx,Zy,Zz,Z10,Z11,Z12,Z13,Z14,Z15,Z16,Z17,Z18,Z19,Z1a,Z1b,Z1c,Z1d,Z1e,Z1f,Z1g,Z1h,Z1i,Z1j,Z1k,Z1l,Z1m,Z1n,Z1o,Z1p,Z1q,Z1r,Z1s,Z1t,Z1u,Z1v,Z1w,Z1x,Z1y,Z1z,Z20,Z21,Z22,Z23,Z24,Z25,Z26,Z27,Z28,Z29,Z2a,Z2b,Z2c,Z2d,Z2e,Z2f,Z2g,Z2h,Z2i,Z2j,Z2k,Z2l,Z2m,Z2n,Z2o,Z2p,Z2q,Z2r,Z2s,Z2t,Z2u,Z2v,Z2w,Z2x,Z2y,Z2z,Z30,Z31,Z32,Z33,Z34,Z35,Z36,Z37,Z38,Z39,Z3a,Z3b,Z3c,Z3d,Z3e,Z3f,Z3g,Z3h,Z3i,Z3j,Z3k,Z3l,Z3m,Z3n,Z3o,Z3p,Z3q,Z3r,Z3s,Z3t,Z3u,Z3v,Z3w,Z3x,Z3y,Z3z,Z40,Z41,Z42,Z43,Z44,Z45,Z46,Z47,Z48,Z49,Z4a,Z4b,Z4c,Z4d,Z4e,Z4f,Z4g,Z4h,Z4i,Z4j,Z4k,Z4l,Z4m,Z4n,Z4o,Z4p,Z4q,Z4r,Z4s,Z4t,Z4u,Z4v,Z4w,Z4x,Z4y,Z4z,Z50,Z51,Z52,Z53,Z54,Z55,Z56,Z57,Z58,Z59,Z5a,Z5b,Z5c,Z5d,Z5e,Z5f,Z5g,Z5h,Z5i,Z5j,Z5k,Z5l,Z5m,Z5n,Z5o,Z5p,Z5q,Z5r,Z5s,Z5t,Z5u,Z5v,Z5w,Z5x,Z5y,Z5z,Z60,Z61,Z62,Z63,Z64,Z65,Z66,Z67,Z68,Z69,Z6a,Z6b,Z6c,Z6d,Z6e,Z6f,Z6g,Z6h,Z6i,Z6j,Z6k,Z6l,Z6m,Z6n,Z6o,Z6p,Z6q,Z6r,Z6s,Z6t,Z6u,Z6v,Z6w,Z6x,Z6y,Z6z,Z70,Z71,Z72,Z73,Z74,Z75,Z76,Z77,Z78,Z79,Z7a,Z7b,Z7c,Z7d,Z7e,Z7f,Z7g,Z7h,Z7i,Z7j,Z7k,Z7l,Z7m,Z7n,Z7o,Z7p,Z7q,Z7r,Z7s,Z7t,Z7u,Z7v,Z7w,Z7x,Z7y,Z7z,Z80,Z81,Z82,Z83,Z84,Z85,Z86,y295,y296,y297,y298,y299,y300,y301,y302,y303,y304,y305,y306,y307,y308,Z8l,Z8m,Z8n,Z8o,Z8p], dl⟩ wo) :
  cd.wp Tryz.prog Q ⟨#[Z0,Z1,.pointer (some ⟨ba, 0, none⟩),.pointer (some ⟨bb, 0, none⟩),Z4,Z5,.pointer (some ⟨br, 0, none⟩),.int .i64 i,.int .i64 k,Z9,Za,Zb,Zc,Zd,Ze,Zf,Zg,Zh,Zi,Zj,Zk,Zl,Zm,Zn,Zo,Zp,Zq,Zr,Zs,Zt,Zu,Zv,Zw,Zx,Zy,Zz,Z10,Z11,Z12,Z13,Z14,Z15,Z16,Z17,Z18,Z19,Z1a,Z1b,Z1c,Z1d,Z1e,Z1f,Z1g,Z1h,Z1i,Z1j,Z1k,Z1l,Z1m,Z1n,Z1o,Z1p,Z1q,Z1r,Z1s,Z1t,Z1u,Z1v,Z1w,Z1x,Z1y,Z1z,Z20,Z21,Z22,Z23,Z24,Z25,Z26,Z27,Z28,Z29,Z2a,Z2b,Z2c,Z2d,Z2e,Z2f,Z2g,Z2h,Z2i,Z2j,Z2k,Z2l,Z2m,Z2n,Z2o,Z2p,Z2q,Z2r,Z2s,Z2t,Z2u,Z2v,Z2w,Z2x,Z2y,Z2z,Z30,Z31,Z32,Z33,Z34,Z35,Z36,Z37,Z38,Z39,Z3a,Z3b,Z3c,Z3d,Z3e,Z3f,Z3g,Z3h,Z3i,Z3j,Z3k,Z3l,Z3m,Z3n,Z3o,Z3p,Z3q,Z3r,Z3s,Z3t,Z3u,Z3v,Z3w,Z3x,Z3y,Z3z,Z40,Z41,Z42,Z43,Z44,Z45,Z46,Z47,Z48,Z49,Z4a,Z4b,Z4c,Z4d,Z4e,Z4f,Z4g,Z4h,Z4i,Z4j,Z4k,Z4l,Z4m,Z4n,Z4o,Z4p,Z4q,Z4r,Z4s,Z4t,Z4u,Z4v,Z4w,Z4x,Z4y,Z4z,Z50,Z51,Z52,Z53,Z54,Z55,Z56,Z57,Z58,Z59,Z5a,Z5b,Z5c,Z5d,Z5e,Z5f,Z5g,Z5h,Z5i,Z5j,Z5k,Z5l,Z5m,Z5n,Z5o,Z5p,Z5q,Z5r,Z5s,Z5t,Z5u,Z5v,Z5w,Z5x,Z5y,Z5z,Z60,Z61,Z62,Z63,Z64,Z65,Z66,Z67,Z68,Z69,Z6a,Z6b,Z6c,Z6d,Z6e,Z6f,Z6g,Z6h,Z6i,Z6j,Z6k,Z6l,Z6m,Z6n,Z6o,Z6p,Z6q,Z6r,Z6s,Z6t,Z6u,Z6v,Z6w,Z6x,Z6y,Z6z,Z70,Z71,Z72,Z73,Z74,Z75,Z76,Z77,Z78,Z79,Z7a,Z7b,Z7c,Z7d,Z7e,Z7f,Z7g,Z7h,Z7i,Z7j,Z7k,Z7l,Z7m,Z7n,Z7o,Z7p,Z7q,Z7r,Z7s,Z7t,Z7u,Z7v,Z7w,Z7x,Z7y,Z7z,Z80,Z81,Z82,Z83,Z84,Z85,Z86,Z87,Z88,Z89,Z8a,Z8b,Z8c,Z8d,Z8e,Z8f,Z8g,Z8h,Z8i,Z8j,Z8k,Z8l,Z8m,Z8n,Z8o,Z8p], dl⟩ X := by
 rw [show (Tryz.f29.body.bind (regionOf 24)) = some (Code.region 24 _ true) from rfl] at hcd
 obtain rfl := Option.some.inj hcd
 clear hcd
 dsimp only at hQ ⊢
 obtain ⟨i0, hi0, hz0, hz1, hz2⟩ := info_parts capInfo
 have Hi := Lib.hid hi0; have Hz0 := Lib.hid hz0; have Hz1 := Lib.hid hz1; have Hz2 := Lib.hid hz2
 clear hi0 hz0 hz1 hz2
 obtain ⟨p0, p1, p2⟩ := xa.c3
 obtain ⟨q0, q1, q2⟩ := xb.c3
 obtain ⟨y0, y1, y2⟩ := rc.box.c3
 have f2 := rc.box.frozen 2
 have la0 := xa.lt
 have lb0 := xb.lt
 have lr0 := rc.box.lt
 have z0 : (0 : Int) ≤ (i : Int) := by omega
 have g1 : (i : Int) < (a3.length : Int) := by omega
 obtain ⟨la, hla, laB, ex0, hq⟩ := hS.sp (by decide) hlt
 have ex1 := hq 1 (by decide) (by decide)
 have ex2 := hq 2 (by decide) (by decide)
 have ex3 := hq 3 (by decide) (by decide)
 clear hq
 obtain ⟨x, hx⟩ : ∃ x, a3[i] = x := ⟨_, rfl⟩
 rw [hx] at ex0 ex1 ex2 ex3 hQ
 clear hx
 replace ex0 : X.cell? (la.add (i * 4)) = some (.int .i64 x.a) := ex0
 replace ex1 : X.cell? (⟨(la.add (i * 4)).block, (la.add (i * 4)).off + 1, none⟩) = some (.int .i64 x.b) := ex1
 replace ex2 : X.cell? (⟨(la.add (i * 4)).block, (la.add (i * 4)).off + 2, none⟩) = some (.int .i64 x.c) := ex2
 replace ex3 : X.cell? (⟨(la.add (i * 4)).block, (la.add (i * 4)).off + 3, none⟩) = some (.int .i64 x.d) := ex3
 clear hS
 subst hla
 have rcd := rc.below (Below.refl X.heap.size X).drew
 have hBd := hB.drew
 have hs3 : br + 1 ≤ X.drew.heap.size := hs
 refine wp_region_noPanic ?_
 go_region_law ((refine step_pushR (w := X.drew) (w0 := W0) (cell := p4cell) (y := x) rfl _ _ _ rfl (br + 1) br 71 i0 _ 32 Tryz.underlying28 Hi.out Hz0.out Hz1.out Hz2.out rfl (by decide) v3 o3.length o3 (by simp [Act.eval]) rcd.c _ _ rfl _ (by simp [Act.eval]; rfl) (p4_one _) (by unfold maxLen; omega) (by omega) hs3 (by omega) hBd ?_; intro v' w' hown' hb' hg'; have b1 := rcd.box.grown hg' (rcd.box.ne_own (by decide) rcd.c); obtain ⟨y0, y1, y2⟩ := b1.c3; have f2 := b1.frozen 2; obtain ⟨g', cap', rfl⟩ := ownsRow_succ hown'))
 all_goals refine NoPanic.normal (hQ _ _ _ _ _ _ _ _ _ _ _ _ _ _ _ _ _ _ (by rw [wrap_small (z := (i : Int) + 1) (by omega) (by omega)]; first | rfl | go_num) (by rw [wrap_small (z := (k : Int) + 1) (by omega) (by omega)]; first | rfl | go_num) (rcd.addC (qs := [x]) (Nat.lt_succ_self _) hown' (by rw [List.length_append]; rfl) hg') (hb'.setCell (p := ⟨br, 2, none⟩) (Nat.le_refl _) _) (by rw [World.size_setCell]; exact Nat.le_trans hs3 hg'.size))
end Go.Proofs.YtciolgmljpamlaaGreatDoor
end
