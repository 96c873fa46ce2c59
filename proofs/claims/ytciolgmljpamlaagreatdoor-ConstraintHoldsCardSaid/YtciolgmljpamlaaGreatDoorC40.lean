/- A bundle of texts: Rf11b, Rf11c, Rf11. -/
import Derived.Test.YtciolgmljpamlaaGreatDoorC38
import Derived.Test.YtciolgmljpamlaaGreatDoorC39
import Derived.Test.YtciolgmljpamlaaGreatDoorC36
section
namespace Go.Proofs.YtciolgmljpamlaaGreatDoor
open Go Go.RowKit
set_option maxRecDepth 100000
theorem push_wp {α : Type} {P : Program} {size : Nat} {cell : α → Nat → Value} {w w0 : World} {o : Oper} {a : Act} {K : Act → World → Prop} {Q : Exit → Act → World → Prop} (s x : Operand) (t : TypeId)
    (ho : o.op = .call { callee := .builtin .append, args := #[s, x], argTypes := #[t, t] })
    (base B : Nat) (e : TypeId) (i : TypeInfo) (z : Value) (bytes : Nat) (ht : P.underlying t = some (.slice e)) (hi : P.info? e = some i) (hz : i.zero = some z)
    (hsize : i.size = size) (hby : i.bytes = bytes) (hzs : z.cells.size = size) (hsz : 0 < size)
    (v : Value) (n : Nat) (xs : List α) (y : α) (hs : a.eval s = v) (hown : w.ownsRow base e size v n (flat size cell xs))
    (cs : Array Value) (te : TypeId) (hcs : cs.toList = (List.range size).map (cell y)) (c : Nat) (hx : a.eval x = .slice (some ⟨w.heap.size, 0, none⟩) 1 c) (h1 : ∀ j, (cell y j).oneCell' = true)
    (h63 : n + 1 ≤ maxLen) (hbytes : (n + 1) * bytes ≤ 140737488355328) (hbase : base ≤ w.heap.size) (hBb : B ≤ base) (hB : Below B w0 w)
    (h : ∀ v' w', w'.ownsRow base e size v' (n + 1) (flat size cell (xs ++ [y])) → Below B w0 w' → w.grownBy w' v.ownBlock → K (a.put o.dst v') w') :
    Oper.wp P o a (w.alloc (.cells cs te)) K Q := by
  obtain ⟨v', w', hrun, h2, h3, _, h5⟩ := run_append_own_at (P := P) (w.alloc (.cells cs te)) base t o.type e i z size bytes ht hi hz hsize hby hzs hsz v n (flat size cell xs) (hown.alloc _) ⟨w.heap.size, 0, none⟩ 1 c cs.toList (by rw [hcs]; simp) (by
    intro j u hj
    have hb : (w.alloc (.cells cs te)).heap[w.heap.size]? = some (.cells cs te (0, 0)) := heap_alloc_new w _
    have e1 : (⟨w.heap.size, 0, none⟩ : Addr).add j = ⟨w.heap.size, j, none⟩ := by unfold Addr.add; split <;> simp_all
    rw [e1, cell_of_row _ _ _ _ _ _ hb]
    simpa using hj) (by
    intro u hu
    rw [hcs] at hu
    obtain ⟨j, _, rfl⟩ := List.mem_map.1 hu
    exact h1 j) h63 hbytes (by simp; omega)
  unfold Oper.wp execOp
  simp only [ho, resolve, invoke, builtin, Sem.run_bind, Sem.run_pure, Result.andThen_ok, List.map_toArray, List.map_cons, List.map_nil, hs, hx, hrun]
  have hg' := grown_alloc h3
  refine h v' w' (by rw [flat_append, flat_one, ← hcs]; exact h2) (hB.grown hg' (by omega) fun k hk => ?_) hg'
  have := (hown.lt k hk).1
  omega
theorem wpOp_K {P : Program} {ops : Array Oper} {Q : Exit → Act → World → Prop} {i : Nat} {K0 : Act → World → Prop} {a : Act} {w : World} (h : ∀ K : Act → World → Prop, (∀ a w, K0 a w → K a w) → wpOp P ops Q i K a w) : wpOp P ops Q i K0 a w := h _ (fun _ _ x => x)
theorem wpAnyL_one {P : Program} {md : Region.Mode} {ops : Array Oper} {Q : Exit → Act → World → Prop} {S : Array Bool → World → Prop} {i fuel : Nat} {listed : Array Bool} {a : Act} {w : World} (hr : Region.ready md ops listed = [i]) (h : wpOp P ops Q i (fun a' w' => S (listed.setIfInBounds i true) w' ∧ wpAnyL P md ops Q S fuel (listed.setIfInBounds i true) a' w') a w) : wpAnyL P md ops Q S (fuel + 1) listed a w := wpAnyL_all hr (by simp) (fun j hj => by rw [List.mem_singleton.1 hj]; exact h)
set_option maxHeartbeats 32000000 in
theorem b16_ld {Q : Exit → Act → World → Prop} {cd : Code} {dl : List Deferred} {Z0 Z1 Z2 Z3 Z4 Z5 Z6 Zc Ze Zg Zh Zi Zj Zk Zl Zm Zn Zo Zp Zq Zr Zs Zt Zu Zv Zw Zx Zy Zz Z10 Z11 Z12 Z13 Z14 Z15 Z16 Z17 Z18 Z19 Z1a Z1b Z1c Z1d Z1e Z1f Z1g Z1h Z1i Z1j Z1k Z1l Z1m Z1n Z1o Z1p Z1q Z1r Z1s Z1t Z1u Z1v Z1w Z1x Z1y Z1z Z20 Z21 Z22 Z23 Z24 Z25 Z26 Z27 Z28 Z29 Z2a Z2b Z2c Z2d Z2e Z2f Z2g Z2h Z2i Z2j Z2k Z2l Z2m Z2n Z2o Z2p Z2q Z2r Z2s Z2t Z2u Z2v Z2w Z2x Z2y Z2z Z30 Z31 Z32 Z33 Z34 Z35 Z36 Z37 Z38 Z39 Z3a Z3b Z3c Z3d Z3e Z3f Z3g Z3h Z3i Z3j Z3k Z3l Z3m Z3n Z3o Z3p Z3q Z3r Z3s Z3t Z3u Z3v Z3w Z3x Z3y Z3z Z40 Z41 Z42 Z43 Z44 Z45 Z46 Z47 : Value} (SA : Option Addr) (sc : Nat) (ts : List SE) (lo hh : Int) (X : World) (br i k : Nat) (z : Int) (W0 : World) (base : Nat) (v1 v2 v3 : Value) (o1 o2 : List P5) (o3 : List P4) (rc : RC X base br o1 o2 o3 v1 v2 v3) (hbr : br < base) (hB : Below br W0 X) (hs : base ≤ X.heap.size) (hL : Sl 8 secell X base SA ts) (hne : ∀ ad, SA = some ad → ad.block ≠ br) (hi : i < ts.length) (hk : k < ts.length) (hol : o2.length ≤ 15000) (hcd : (Tryz.f27.body.bind (regionOf 19)) = some cd)
    (hQ : ∀ (y110 y111 y112 y113 y114 y115 y116 y117 y118 y119 y120 y121 y122 y123 y124 y125 y126 y127 y128 : Value) (wo : World) (v' : Value), RC wo base br o1 (o2 ++ [⟨ts[i].s.id, ts[k].s.id, z, lo, hh⟩]) o3 v1 v' v3 → Below br W0 wo → base ≤ wo.heap.size → (∀ b, b < base → b ≠ br → wo.heap[b]? = X.heap[b]?) → Q .normal ⟨#[Z0,Z1,Z2,Z3,Z4,Z5,Z6,.pointer (some ⟨br, 0, none⟩),.slice SA ts.length sc,.int .i64 lo,.int .i64 hh,.int .i64 i,Zc,.int .i64 k,Ze,.int .i64 z,Zg,Zh,Zi,Zj,Zk,Zl,Zm,Zn,Zo,Zp,Zq,Zr,Zs,Zt,Zu,Zv,Zw,Zx,Zy,Zz,Z10,Z11,Z12,Z13,Z14,Z15,Z16,Z17,Z18,Z19,Z1a,Z1b,Z1c,Z1d,Z1e,Z1f,Z1g,Z1h,Z1i,Z1j,Z1k,Z1l,Z1m,Z1n,Z1o,Z1p,Z1q,Z1r,Z1s,Z1t,Z1u,Z1v,Z1w,Z1x,Z1y,Z1z,Z20,Z21,Z22,Z23,Z24,Z25,Z26,Z27,Z28,Z29,Z2a,Z2b,Z2c,Z2d,Z2e,Z2f,Z2g,Z2h,Z2i,Z2j,Z2k,Z2l,Z2m,Z2n,Z2o,Z2p,Z2q,Z2r,Z2s,Z2t,Z2u,Z2v,Z2w,Z2x,Z2y,Z2z,Z30,Z31,y110,y111,y112,y113,y114,y115,y116,y117,y118,y119,y120,y121,y122,y123,y124,y125,y126,y127,y128,Z3l,Z3m,Z3n,Z3o,Z3p,Z3q,Z3r,Z3s,Z3t,Z3u,Z3v,Z3w,Z3x,Z3y,Z3z,Z40,Z41,Z42,Z43,Z44,Z45,Z46,Z47], dl⟩ wo) :
    cd.wp Tryz.prog Q ⟨#[Z0,Z1,Z2,Z3,Z4,Z5,Z6,.pointer (some ⟨br, 0, none⟩),.slice SA ts.length sc,.int .i64 lo,.int .i64 hh,.int .i64 i,Zc,.int .i64 k,Ze,.int .i64 z,Zg,Zh,Zi,Zj,Zk,Zl,Zm,Zn,Zo,Zp,Zq,Zr,Zs,Zt,Zu,Zv,Zw,Zx,Zy,Zz,Z10,Z11,Z12,Z13,Z14,Z15,Z16,Z17,Z18,Z19,Z1a,Z1b,Z1c,Z1d,Z1e,Z1f,Z1g,Z1h,Z1i,Z1j,Z1k,Z1l,Z1m,Z1n,Z1o,Z1p,Z1q,Z1r,Z1s,Z1t,Z1u,Z1v,Z1w,Z1x,Z1y,Z1z,Z20,Z21,Z22,Z23,Z24,Z25,Z26,Z27,Z28,Z29,Z2a,Z2b,Z2c,Z2d,Z2e,Z2f,Z2g,Z2h,Z2i,Z2j,Z2k,Z2l,Z2m,Z2n,Z2o,Z2p,Z2q,Z2r,Z2s,Z2t,Z2u,Z2v,Z2w,Z2x,Z2y,Z2z,Z30,Z31,Z32,Z33,Z34,Z35,Z36,Z37,Z38,Z39,Z3a,Z3b,Z3c,Z3d,Z3e,Z3f,Z3g,Z3h,Z3i,Z3j,Z3k,Z3l,Z3m,Z3n,Z3o,Z3p,Z3q,Z3r,Z3s,Z3t,Z3u,Z3v,Z3w,Z3x,Z3y,Z3z,Z40,Z41,Z42,Z43,Z44,Z45,Z46,Z47], dl⟩ X := by
  rw [show (Tryz.f27.body.bind (regionOf 19)) = some (Code.region 19 _ true) from rfl] at hcd
  obtain rfl := Option.some.inj hcd
  clear hcd
  dsimp only at hQ ⊢
  obtain ⟨i0, hi0, hz0, hz1, hz2⟩ := info_parts loadInfo
  have Hi := Lib.hid hi0; have Hz0 := Lib.hid hz0; have Hz1 := Lib.hid hz1; have Hz2 := Lib.hid hz2
  clear hi0 hz0 hz1 hz2
  obtain ⟨y0, y1, y2⟩ := rc.box.c3
  have f1 := rc.box.frozen 1
  have lr0 := rc.box.lt
  have x0 : (0 : Int) ≤ (i : Int) := by omega
  have x1 : (i : Int) < (ts.length : Int) := by omega
  have x2 : (0 : Int) ≤ (k : Int) := by omega
  have x3 : (k : Int) < (ts.length : Int) := by omega
  obtain ⟨la, hla, lB1, a0, -, -, -, -, -, -, -⟩ := hL.st8 hi
  obtain ⟨l2, hl2, lB2, b0, -, -, -, -, -, -, -⟩ := hL.st8 hk
  obtain rfl : la = l2 := Option.some.inj (hla.symm.trans hl2)
  have nb := hne _ hla
  clear hl2 hL hne
  generalize ts[i].s.id = xid at *
  generalize ts[k].s.id = yid at *
  subst hla
  have la0 : (la.add (i * 8)).block < base := by first | exact lB1 | (rw [add_block]; exact lB1) | (rw [add_block] at lB1 ⊢; exact lB1)
  have lb0 : (la.add (k * 8)).block < base := by first | exact lB1 | (rw [add_block]; exact lB1) | (rw [add_block] at lB1 ⊢; exact lB1)
  have na0 : (la.add (i * 8)).block ≠ br := by rw [add_block]; exact nb
  have nb0 : (la.add (k * 8)).block ≠ br := by rw [add_block]; exact nb
  have za0 : (la.add (i * 8)).block < X.heap.size := Nat.lt_of_lt_of_le la0 hs
  have zb0 : (la.add (k * 8)).block < X.heap.size := Nat.lt_of_lt_of_le lb0 hs
  have rcd := rc.below (Below.refl X.heap.size X).drew
  have hBd := hB.drew
  have hs3 : base ≤ X.drew.heap.size := hs
  have a0d : X.drew.cell? (la.add (i * 8)) = some (.int .i64 xid) := a0
  have b0d : X.drew.cell? (la.add (k * 8)) = some (.int .i64 yid) := b0
  have dd : X.drew.cell? ⟨br, 1, none⟩ = some v2 := y1
  refine wp_region_noPanic ?_
  refine wp_region_any (by kernel_rfl) ?_
  refine wpAny_of_L (S := fun ls w' => (w'.cell? (la.add (i * 8)) = some (.int .i64 xid) ∧ w'.cell? (la.add (k * 8)) = some (.int .i64 yid)) ∧ (ls.getD 17 true = false → w'.cell? ⟨br, 1, none⟩ = some v2)) _ _ _ _ ?_
  change wpAnyL Tryz.prog _ _ _ _ _ _ _ X.drew
  refine wpAnyL_take (i := 0) (q := 1) (v := ?vv0) (fun w' => w'.cell? (la.add (i * 8)) = some (.int .i64 xid) ∧ w'.cell? (la.add (k * 8)) = some (.int .i64 yid)) rfl (by kernel_rfl) (by kernel_rfl) (by kernel_rfl) (fun c a w h => h) rfl (by kernel_rfl) (by decide) (fun ls w => by simp) (fun ls w h1 h2 => h2.1) rfl rfl ?hy0 ⟨⟨a0d, b0d⟩, fun _ => dd⟩ ?rest0
  case hy0 => (intro w hSw; (try dsimp only at hSw); obtain ⟨hS1, hS2⟩ := hSw; go_simp; (try with_reducible rfl))
  try simp only [Act.put, List.setIfInBounds_toArray]
  refine wpAnyL_take (i := 1) (q := 17) (v := ?vv1) (fun w' => w'.cell? ⟨br, 1, none⟩ = some v2) rfl (by kernel_rfl) (by kernel_rfl) (by kernel_rfl) (fun c a w h => h) rfl (by kernel_rfl) (by decide) (fun ls w => by simp) (fun ls w h1 h2 => h2.2 h1) rfl rfl ?hy1 ⟨⟨a0d, b0d⟩, fun _ => dd⟩ ?rest1
  case hy1 => (intro w hSw; (try dsimp only at hSw); go_simp; (try with_reducible rfl))
  try simp only [Act.put]
  refine wpAnyL_take (i := 2) (q := 4) (v := ?vv2) (fun w' => w'.cell? (la.add (i * 8)) = some (.int .i64 xid) ∧ w'.cell? (la.add (k * 8)) = some (.int .i64 yid)) rfl (by kernel_rfl) (by kernel_rfl) (by kernel_rfl) (fun c a w h => h) rfl (by kernel_rfl) (by decide) (fun ls w => by simp) (fun ls w h1 h2 => h2.1) rfl rfl ?hy2 ⟨⟨a0d, b0d⟩, fun _ => dd⟩ ?rest2
  case hy2 => (intro w hSw; (try dsimp only at hSw); obtain ⟨hS1, hS2⟩ := hSw; go_simp; (try with_reducible rfl))
  try simp only [Act.put]
  refine wpAnyL_take (i := 3) (q := 4) (v := ?vv3) (fun w' => w'.cell? (la.add (i * 8)) = some (.int .i64 xid) ∧ w'.cell? (la.add (k * 8)) = some (.int .i64 yid)) rfl (by kernel_rfl) (by kernel_rfl) (by kernel_rfl) (fun c a w h => h) rfl (by kernel_rfl) (by decide) (fun ls w => by simp) (fun ls w h1 h2 => h2.1) rfl rfl ?hy3 ⟨⟨a0d, b0d⟩, fun _ => dd⟩ ?rest3
  case hy3 => (intro w hSw; (try dsimp only at hSw); obtain ⟨hS1, hS2⟩ := hSw; go_simp; (try with_reducible rfl))
  try simp only [Act.put]
  refine wpAnyL_take (i := 4) (q := 5) (v := ?vv4) (fun w' => w'.cell? (la.add (i * 8)) = some (.int .i64 xid) ∧ w'.cell? (la.add (k * 8)) = some (.int .i64 yid)) rfl (by kernel_rfl) (by kernel_rfl) (by kernel_rfl) (fun c a w h => h) rfl (by kernel_rfl) (by decide) (fun ls w => by simp) (fun ls w h1 h2 => h2.1) rfl rfl ?hy4 ⟨⟨a0d, b0d⟩, fun _ => dd⟩ ?rest4
  case hy4 => (intro w hSw; (try dsimp only at hSw); obtain ⟨hS1, hS2⟩ := hSw; go_simp; (try with_reducible rfl))
  try simp only [Act.put]
  refine wpAnyL_take (i := 5) (q := 6) (v := ?vv5) (fun w' => w'.cell? (la.add (i * 8)) = some (.int .i64 xid) ∧ w'.cell? (la.add (k * 8)) = some (.int .i64 yid)) rfl (by kernel_rfl) (by kernel_rfl) (by kernel_rfl) (fun c a w h => h) rfl (by kernel_rfl) (by decide) (fun ls w => by simp) (fun ls w h1 h2 => h2.1) rfl rfl ?hy5 ⟨⟨a0d, b0d⟩, fun _ => dd⟩ ?rest5
  case hy5 => (intro w hSw; (try dsimp only at hSw); obtain ⟨hS1, hS2⟩ := hSw; go_simp; (try with_reducible rfl))
  try simp only [Act.put]
  refine wpAnyL_take (i := 6) (q := 15) (v := ?vv6) (fun w' => w'.cell? (la.add (i * 8)) = some (.int .i64 xid) ∧ w'.cell? (la.add (k * 8)) = some (.int .i64 yid)) rfl (by kernel_rfl) (by kernel_rfl) (by kernel_rfl) (fun c a w h => h) rfl (by kernel_rfl) (by decide) (fun ls w => by simp) (fun ls w h1 h2 => h2.1) rfl rfl ?hy6 ⟨⟨a0d, b0d⟩, fun _ => dd⟩ ?rest6
  case hy6 => (intro w hSw; (try dsimp only at hSw); obtain ⟨hS1, hS2⟩ := hSw; go_simp; (try with_reducible rfl))
  try simp only [Act.put]
  refine wpAnyL_take (i := 7) (q := 9) (v := ?vv7) (fun w' => w'.cell? (la.add (i * 8)) = some (.int .i64 xid) ∧ w'.cell? (la.add (k * 8)) = some (.int .i64 yid)) rfl (by kernel_rfl) (by kernel_rfl) (by kernel_rfl) (fun c a w h => h) rfl (by kernel_rfl) (by decide) (fun ls w => by simp) (fun ls w h1 h2 => h2.1) rfl rfl ?hy7 ⟨⟨a0d, b0d⟩, fun _ => dd⟩ ?rest7
  case hy7 => (intro w hSw; (try dsimp only at hSw); obtain ⟨hS1, hS2⟩ := hSw; go_simp; (try with_reducible rfl))
  try simp only [Act.put]
  refine wpAnyL_take (i := 8) (q := 9) (v := ?vv8) (fun w' => w'.cell? (la.add (i * 8)) = some (.int .i64 xid) ∧ w'.cell? (la.add (k * 8)) = some (.int .i64 yid)) rfl (by kernel_rfl) (by kernel_rfl) (by kernel_rfl) (fun c a w h => h) rfl (by kernel_rfl) (by decide) (fun ls w => by simp) (fun ls w h1 h2 => h2.1) rfl rfl ?hy8 ⟨⟨a0d, b0d⟩, fun _ => dd⟩ ?rest8
  case hy8 => (intro w hSw; (try dsimp only at hSw); obtain ⟨hS1, hS2⟩ := hSw; go_simp; (try with_reducible rfl))
  try simp only [Act.put]
  refine wpAnyL_take (i := 9) (q := 10) (v := ?vv9) (fun w' => w'.cell? (la.add (i * 8)) = some (.int .i64 xid) ∧ w'.cell? (la.add (k * 8)) = some (.int .i64 yid)) rfl (by kernel_rfl) (by kernel_rfl) (by kernel_rfl) (fun c a w h => h) rfl (by kernel_rfl) (by decide) (fun ls w => by simp) (fun ls w h1 h2 => h2.1) rfl rfl ?hy9 ⟨⟨a0d, b0d⟩, fun _ => dd⟩ ?rest9
  case hy9 => (intro w hSw; (try dsimp only at hSw); obtain ⟨hS1, hS2⟩ := hSw; go_simp; (try with_reducible rfl))
  try simp only [Act.put]
  refine wpAnyL_take (i := 10) (q := 11) (v := ?vv10) (fun w' => w'.cell? (la.add (i * 8)) = some (.int .i64 xid) ∧ w'.cell? (la.add (k * 8)) = some (.int .i64 yid)) rfl (by kernel_rfl) (by kernel_rfl) (by kernel_rfl) (fun c a w h => h) rfl (by kernel_rfl) (by decide) (fun ls w => by simp) (fun ls w h1 h2 => h2.1) rfl rfl ?hy10 ⟨⟨a0d, b0d⟩, fun _ => dd⟩ ?rest10
  case hy10 => (intro w hSw; (try dsimp only at hSw); obtain ⟨hS1, hS2⟩ := hSw; go_simp; (try with_reducible rfl))
  try simp only [Act.put]
  refine wpAnyL_take (i := 11) (q := 15) (v := ?vv11) (fun w' => w'.cell? (la.add (i * 8)) = some (.int .i64 xid) ∧ w'.cell? (la.add (k * 8)) = some (.int .i64 yid)) rfl (by kernel_rfl) (by kernel_rfl) (by kernel_rfl) (fun c a w h => h) rfl (by kernel_rfl) (by decide) (fun ls w => by simp) (fun ls w h1 h2 => h2.1) rfl rfl ?hy11 ⟨⟨a0d, b0d⟩, fun _ => dd⟩ ?rest11
  case hy11 => (intro w hSw; (try dsimp only at hSw); obtain ⟨hS1, hS2⟩ := hSw; go_simp; (try with_reducible rfl))
  try simp only [Act.put]
  refine wpAnyL_take (i := 12) (q := 15) (v := ?vv12) (fun w' => w'.cell? (la.add (i * 8)) = some (.int .i64 xid) ∧ w'.cell? (la.add (k * 8)) = some (.int .i64 yid)) rfl (by kernel_rfl) (by kernel_rfl) (by kernel_rfl) (fun c a w h => h) rfl (by kernel_rfl) (by decide) (fun ls w => by simp) (fun ls w h1 h2 => h2.1) rfl rfl ?hy12 ⟨⟨a0d, b0d⟩, fun _ => dd⟩ ?rest12
  case hy12 => (intro w hSw; (try dsimp only at hSw); obtain ⟨hS1, hS2⟩ := hSw; go_simp; (try with_reducible rfl))
  try simp only [Act.put]
  refine wpAnyL_take (i := 13) (q := 15) (v := ?vv13) (fun w' => w'.cell? (la.add (i * 8)) = some (.int .i64 xid) ∧ w'.cell? (la.add (k * 8)) = some (.int .i64 yid)) rfl (by kernel_rfl) (by kernel_rfl) (by kernel_rfl) (fun c a w h => h) rfl (by kernel_rfl) (by decide) (fun ls w => by simp) (fun ls w h1 h2 => h2.1) rfl rfl ?hy13 ⟨⟨a0d, b0d⟩, fun _ => dd⟩ ?rest13
  case hy13 => (intro w hSw; (try dsimp only at hSw); obtain ⟨hS1, hS2⟩ := hSw; go_simp; (try with_reducible rfl))
  try simp only [Act.put]
  refine wpAnyL_take (i := 14) (q := 15) (v := ?vv14) (fun w' => w'.cell? (la.add (i * 8)) = some (.int .i64 xid) ∧ w'.cell? (la.add (k * 8)) = some (.int .i64 yid)) rfl (by kernel_rfl) (by kernel_rfl) (by kernel_rfl) (fun c a w h => h) rfl (by kernel_rfl) (by decide) (fun ls w => by simp) (fun ls w h1 h2 => h2.1) rfl rfl ?hy14 ⟨⟨a0d, b0d⟩, fun _ => dd⟩ ?rest14
  case hy14 => (intro w hSw; (try dsimp only at hSw); obtain ⟨hS1, hS2⟩ := hSw; go_simp; (try with_reducible rfl))
  try simp only [Act.put]
  refine wpAnyL_take (i := 15) (q := 16) (v := ?vv15) (fun w' => w'.cell? (la.add (i * 8)) = some (.int .i64 xid) ∧ w'.cell? (la.add (k * 8)) = some (.int .i64 yid)) rfl (by kernel_rfl) (by kernel_rfl) (by kernel_rfl) (fun c a w h => h) rfl (by kernel_rfl) (by decide) (fun ls w => by simp) (fun ls w h1 h2 => h2.1) rfl rfl ?hy15 ⟨⟨a0d, b0d⟩, fun _ => dd⟩ ?rest15
  case hy15 => (intro w hSw; (try dsimp only at hSw); obtain ⟨hS1, hS2⟩ := hSw; go_simp; (try with_reducible rfl))
  try simp only [Act.put]
  refine wpAnyL_one (i := 16) (by kernel_rfl) ?_
  refine wpOp_K (fun K hK => ?_)
  refine wpOp_one rfl rfl ?_
  go_simp
  refine hK _ _ ⟨⟨⟨(World.cell?_alloc_lt X.drew _ (la.add (i * 8)) (Nat.lt_of_lt_of_le (by exact la0) hs3)).trans a0d, (World.cell?_alloc_lt X.drew _ (la.add (k * 8)) (Nat.lt_of_lt_of_le (by exact lb0) hs3)).trans b0d⟩, fun _ => ?_⟩, ?_⟩
  · exact (World.cell?_alloc_lt X.drew _ ⟨br, 1, none⟩ lr0).trans dd
  clear hK K
  try simp only [Act.put]
  refine wpAnyL_one (i := 17) (by kernel_rfl) ?_
  refine wpOp_K (fun K hK => ?_)
  refine wpOp_one rfl rfl ?_
  refine push_wp (w := X.drew) (w0 := W0) (cell := p5cell) (y := (⟨xid, yid, z, lo, hh⟩ : P5)) _ _ _ rfl base br 68 i0 _ 40 Tryz.underlying27 Hi.out Hz0.out Hz1.out Hz2.out rfl (by decide) v2 o2.length o2 (by simp [Act.eval]) rcd.l _ _ rfl 1 (by simp [Act.eval]) (p5_one _) (by unfold maxLen; omega) (by omega) hs3 (by omega) hBd ?_
  intro v' w' hown' hb' hg'
  have b1 := rcd.box.grown hg' (rcd.box.ne_own (by decide) rcd.l)
  obtain ⟨y0, y1, y2⟩ := b1.c3
  have f1 := b1.frozen 1
  obtain ⟨g', cap', rfl⟩ := ownsRow_succ hown'
  have hfar : ∀ b, b < base → w'.heap[b]? = X.heap[b]? := (fun b h1 => hg'.block b (Nat.lt_of_lt_of_le h1 hs3) (fun e => by have := (rcd.l.lt b e.symm).1; omega))
  have a0w : w'.cell? (la.add (i * 8)) = some (.int .i64 xid) := (World.cell?_of_block (hfar _ (by exact la0))).trans a0d
  have a0v : ∀ u, (w'.setCell ⟨br, 1, none⟩ u).cell? (la.add (i * 8)) = some (.int .i64 xid) := (fun u => (World.cell?_setCell_other w' ⟨br, 1, none⟩ (la.add (i * 8)) u (fun e => na0 (by first | exact congrArg Addr.block e | exact (congrArg Addr.block e).symm))).trans a0w)
  have b0w : w'.cell? (la.add (k * 8)) = some (.int .i64 yid) := (World.cell?_of_block (hfar _ (by exact lb0))).trans b0d
  have b0v : ∀ u, (w'.setCell ⟨br, 1, none⟩ u).cell? (la.add (k * 8)) = some (.int .i64 yid) := (fun u => (World.cell?_setCell_other w' ⟨br, 1, none⟩ (la.add (k * 8)) u (fun e => nb0 (by first | exact congrArg Addr.block e | exact (congrArg Addr.block e).symm))).trans b0w)
  refine hK _ _ ⟨⟨⟨a0w, b0w⟩, fun h => absurd h (by simp)⟩, ?_⟩
  clear hK K
  try simp only [Act.put, List.setIfInBounds_toArray]
  refine wpAnyL_take (i := 18) (q := 19) (v := ?vv18) (fun w' => w'.cell? (la.add (i * 8)) = some (.int .i64 xid) ∧ w'.cell? (la.add (k * 8)) = some (.int .i64 yid)) rfl (by kernel_rfl) (by kernel_rfl) (by kernel_rfl) (fun c a w h => h) rfl (by kernel_rfl) (by decide) (fun ls w => by simp) (fun ls w h1 h2 => h2.1) rfl rfl ?hy18 ⟨⟨a0w, b0w⟩, fun h => absurd h (by simp)⟩ ?rest18
  case hy18 => (intro w hSw; (try dsimp only at hSw); obtain ⟨hS1, hS2⟩ := hSw; go_simp; (try with_reducible rfl))
  try simp only [Act.put]
  refine wpAnyL_one (i := 19) (by kernel_rfl) ?_
  refine wpOp_K (fun K hK => ?_)
  refine wpOp_one rfl rfl ?_
  go_simp
  refine hK _ _ ⟨⟨⟨a0v _, b0v _⟩, fun h => absurd h (by simp)⟩, ?_⟩
  clear hK K
  refine wpAnyL_done (by kernel_rfl) (NoPanic.normal ?_) _
  exact hQ _ _ _ _ _ _ _ _ _ _ _ _ _ _ _ _ _ _ _ _ _ (rcd.addL (qs := [(⟨xid, yid, z, lo, hh⟩ : P5)]) hbr hown' (by rw [List.length_append]; rfl) hg') (hb'.setCell (p := ⟨br, 1, none⟩) (Nat.le_refl _) _) (by rw [World.size_setCell]; exact Nat.le_trans hs3 hg'.size) (fun b h1 h2 => (heap_setCell_other w' ⟨br, 1, none⟩ b _ h2).trans (hfar b h1))
set_option maxHeartbeats 32000000 in
theorem b16_pr {Q : Exit → Act → World → Prop} {cd : Code} {dl : List Deferred} {Z0 Z1 Z2 Z3 Z4 Z5 Z6 Zc Zf Zg Zh Zi Zj Zk Zl Zm Zn Zo Zp Zq Zr Zs Zt Zu Zv Zw Zx Zy Zz Z10 Z11 Z12 Z13 Z14 Z15 Z16 Z17 Z18 Z19 Z1a Z1b Z1c Z1d Z1e Z1f Z1g Z1h Z1i Z1j Z1k Z1l Z1m Z1n Z1o Z1p Z1q Z1r Z1s Z1t Z1u Z1v Z1w Z1x Z1y Z1z Z20 Z21 Z22 Z23 Z24 Z25 Z26 Z27 Z28 Z29 Z2a Z2b Z2c Z2d Z2e Z2f Z2g Z2h Z2i Z2j Z2k Z2l Z2m Z2n Z2o Z2p Z2q Z2r Z2s Z2t Z2u Z2v Z2w Z2x Z2y Z2z Z30 Z31 Z32 Z33 Z34 Z35 Z36 Z37 Z38 Z39 Z3a Z3b Z3c Z3d Z3e Z3f Z3g Z3h Z3i Z3j Z3k Z3l Z3m Z3n Z3o Z3p Z3q Z3r Z3s Z3t Z3u Z3v Z3w Z3x Z3y Z3z Z40 Z41 Z42 Z43 Z44 Z45 Z46 Z47 : Value} (SA : Option Addr) (sc : Nat) (ts : List SE) (lo hh : Int) (X : World) (br i k : Nat) (o l' h' m1 m2 : Int) (hw1 : IntKind.i64.wrap (lo - o) = l') (hw2 : IntKind.i64.wrap (hh - o) = h') (hm1 : max lo l' = m1) (hm2 : min hh h' = m2) (W0 : World) (base : Nat) (v1 v2 v3 : Value) (o1 o2 : List P5) (o3 : List P4) (rc : RC X base br o1 o2 o3 v1 v2 v3) (hbr : br < base) (hB : Below br W0 X) (hs : base ≤ X.heap.size) (hL : Sl 8 secell X base SA ts) (hne : ∀ ad, SA = some ad → ad.block ≠ br) (hi : i < ts.length) (hk : k < ts.length) (hol : o1.length ≤ 15000) (hcd : (Tryz.f27.body.bind (regionOf 15)) = some cd)
    (hQ : ∀ (y55 y56 y57 y58 y59 y60 y61 y62 y63 y64 y65 y66 y67 y68 y69 y70 y71 y72 y73 y74 y75 y76 y77 y78 y79 y80 y81 : Value) (wo : World) (v' : Value), RC wo base br (o1 ++ [⟨ts[i].s.id, ts[k].s.id, o, m1, m2⟩]) o2 o3 v' v2 v3 → Below br W0 wo → base ≤ wo.heap.size → (∀ b, b < base → b ≠ br → wo.heap[b]? = X.heap[b]?) → Q .normal ⟨#[Z0,Z1,Z2,Z3,Z4,Z5,Z6,.pointer (some ⟨br, 0, none⟩),.slice SA ts.length sc,.int .i64 lo,.int .i64 hh,.int .i64 i,Zc,.int .i64 k,.int .i64 o,Zf,Zg,Zh,Zi,Zj,Zk,Zl,Zm,Zn,Zo,Zp,Zq,Zr,Zs,Zt,Zu,Zv,Zw,Zx,Zy,Zz,Z10,Z11,Z12,Z13,Z14,Z15,Z16,Z17,Z18,Z19,Z1a,Z1b,Z1c,Z1d,Z1e,Z1f,Z1g,Z1h,Z1i,y55,y56,y57,y58,y59,y60,y61,y62,y63,y64,y65,y66,y67,y68,y69,y70,y71,y72,y73,y74,y75,y76,y77,y78,y79,y80,y81,Z2a,Z2b,Z2c,Z2d,Z2e,Z2f,Z2g,Z2h,Z2i,Z2j,Z2k,Z2l,Z2m,Z2n,Z2o,Z2p,Z2q,Z2r,Z2s,Z2t,Z2u,Z2v,Z2w,Z2x,Z2y,Z2z,Z30,Z31,Z32,Z33,Z34,Z35,Z36,Z37,Z38,Z39,Z3a,Z3b,Z3c,Z3d,Z3e,Z3f,Z3g,Z3h,Z3i,Z3j,Z3k,Z3l,Z3m,Z3n,Z3o,Z3p,Z3q,Z3r,Z3s,Z3t,Z3u,Z3v,Z3w,Z3x,Z3y,Z3z,Z40,Z41,Z42,Z43,Z44,Z45,Z46,Z47], dl⟩ wo) :
    cd.wp Tryz.prog Q ⟨#[Z0,Z1,Z2,Z3,Z4,Z5,Z6,.pointer (some ⟨br, 0, none⟩),.slice SA ts.length sc,.int .i64 lo,.int .i64 hh,.int .i64 i,Zc,.int .i64 k,.int .i64 o,Zf,Zg,Zh,Zi,Zj,Zk,Zl,Zm,Zn,Zo,Zp,Zq,Zr,Zs,Zt,Zu,Zv,Zw,Zx,Zy,Zz,Z10,Z11,Z12,Z13,Z14,Z15,Z16,Z17,Z18,Z19,Z1a,Z1b,Z1c,Z1d,Z1e,Z1f,Z1g,Z1h,Z1i,Z1j,Z1k,Z1l,Z1m,Z1n,Z1o,Z1p,Z1q,Z1r,Z1s,Z1t,Z1u,Z1v,Z1w,Z1x,Z1y,Z1z,Z20,Z21,Z22,Z23,Z24,Z25,Z26,Z27,Z28,Z29,Z2a,Z2b,Z2c,Z2d,Z2e,Z2f,Z2g,Z2h,Z2i,Z2j,Z2k,Z2l,Z2m,Z2n,Z2o,Z2p,Z2q,Z2r,Z2s,Z2t,Z2u,Z2v,Z2w,Z2x,Z2y,Z2z,Z30,Z31,Z32,Z33,Z34,Z35,Z36,Z37,Z38,Z39,Z3a,Z3b,Z3c,Z3d,Z3e,Z3f,Z3g,Z3h,Z3i,Z3j,Z3k,Z3l,Z3m,Z3n,Z3o,Z3p,Z3q,Z3r,Z3s,Z3t,Z3u,Z3v,Z3w,Z3x,Z3y,Z3z,Z40,Z41,Z42,Z43,Z44,Z45,Z46,Z47], dl⟩ X := by
  rw [show (Tryz.f27.body.bind (regionOf 15)) = some (Code.region 15 _ true) from rfl] at hcd
  obtain rfl := Option.some.inj hcd
  clear hcd
  dsimp only at hQ ⊢
  obtain ⟨i0, hi0, hz0, hz1, hz2⟩ := info_parts pairInfo
  have Hi := Lib.hid hi0; have Hz0 := Lib.hid hz0; have Hz1 := Lib.hid hz1; have Hz2 := Lib.hid hz2
  clear hi0 hz0 hz1 hz2
  obtain ⟨y0, y1, y2⟩ := rc.box.c3
  have f0 := rc.box.frozen 0
  have lr0 := rc.box.lt
  have x0 : (0 : Int) ≤ (i : Int) := by omega
  have x1 : (i : Int) < (ts.length : Int) := by omega
  have x2 : (0 : Int) ≤ (k : Int) := by omega
  have x3 : (k : Int) < (ts.length : Int) := by omega
  obtain ⟨la, hla, lB1, a0, -, -, -, -, -, -, -⟩ := hL.st8 hi
  obtain ⟨l2, hl2, lB2, b0, -, -, -, -, -, -, -⟩ := hL.st8 hk
  obtain rfl : la = l2 := Option.some.inj (hla.symm.trans hl2)
  have nb := hne _ hla
  clear hl2 hL hne
  generalize ts[i].s.id = xid at *
  generalize ts[k].s.id = yid at *
  subst hla
  have la0 : (la.add (i * 8)).block < base := by first | exact lB1 | (rw [add_block]; exact lB1) | (rw [add_block] at lB1 ⊢; exact lB1)
  have lb0 : (la.add (k * 8)).block < base := by first | exact lB1 | (rw [add_block]; exact lB1) | (rw [add_block] at lB1 ⊢; exact lB1)
  have na0 : (la.add (i * 8)).block ≠ br := by rw [add_block]; exact nb
  have nb0 : (la.add (k * 8)).block ≠ br := by rw [add_block]; exact nb
  have za0 : (la.add (i * 8)).block < X.heap.size := Nat.lt_of_lt_of_le la0 hs
  have zb0 : (la.add (k * 8)).block < X.heap.size := Nat.lt_of_lt_of_le lb0 hs
  have rcd := rc.below (Below.refl X.heap.size X).drew
  have hBd := hB.drew
  have hs3 : base ≤ X.drew.heap.size := hs
  have a0d : X.drew.cell? (la.add (i * 8)) = some (.int .i64 xid) := a0
  have b0d : X.drew.cell? (la.add (k * 8)) = some (.int .i64 yid) := b0
  have dd : X.drew.cell? ⟨br, 0, none⟩ = some v1 := y0
  refine wp_region_noPanic ?_
  refine wp_region_any (by kernel_rfl) ?_
  refine wpAny_of_L (S := fun ls w' => (w'.cell? (la.add (i * 8)) = some (.int .i64 xid) ∧ w'.cell? (la.add (k * 8)) = some (.int .i64 yid)) ∧ (ls.getD 25 true = false → w'.cell? ⟨br, 0, none⟩ = some v1)) _ _ _ _ ?_
  change wpAnyL Tryz.prog _ _ _ _ _ _ _ X.drew
  refine wpAnyL_take (i := 0) (q := 1) (v := ?vv0) (fun w' => w'.cell? (la.add (i * 8)) = some (.int .i64 xid) ∧ w'.cell? (la.add (k * 8)) = some (.int .i64 yid)) rfl (by kernel_rfl) (by kernel_rfl) (by kernel_rfl) (fun c a w h => h) rfl (by kernel_rfl) (by decide) (fun ls w => by simp) (fun ls w h1 h2 => h2.1) rfl rfl ?hy0 ⟨⟨a0d, b0d⟩, fun _ => dd⟩ ?rest0
  case hy0 => (intro w hSw; (try dsimp only at hSw); obtain ⟨hS1, hS2⟩ := hSw; go_simp; (try with_reducible rfl))
  try simp only [Act.put, List.setIfInBounds_toArray]
  refine wpAnyL_take (i := 1) (q := 25) (v := ?vv1) (fun w' => w'.cell? ⟨br, 0, none⟩ = some v1) rfl (by kernel_rfl) (by kernel_rfl) (by kernel_rfl) (fun c a w h => h) rfl (by kernel_rfl) (by decide) (fun ls w => by simp) (fun ls w h1 h2 => h2.2 h1) rfl rfl ?hy1 ⟨⟨a0d, b0d⟩, fun _ => dd⟩ ?rest1
  case hy1 => (intro w hSw; (try dsimp only at hSw); go_simp; (try with_reducible rfl))
  try simp only [Act.put]
  refine wpAnyL_take (i := 2) (q := 4) (v := ?vv2) (fun w' => w'.cell? (la.add (i * 8)) = some (.int .i64 xid) ∧ w'.cell? (la.add (k * 8)) = some (.int .i64 yid)) rfl (by kernel_rfl) (by kernel_rfl) (by kernel_rfl) (fun c a w h => h) rfl (by kernel_rfl) (by decide) (fun ls w => by simp) (fun ls w h1 h2 => h2.1) rfl rfl ?hy2 ⟨⟨a0d, b0d⟩, fun _ => dd⟩ ?rest2
  case hy2 => (intro w hSw; (try dsimp only at hSw); obtain ⟨hS1, hS2⟩ := hSw; go_simp; (try with_reducible rfl))
  try simp only [Act.put]
  refine wpAnyL_take (i := 3) (q := 4) (v := ?vv3) (fun w' => w'.cell? (la.add (i * 8)) = some (.int .i64 xid) ∧ w'.cell? (la.add (k * 8)) = some (.int .i64 yid)) rfl (by kernel_rfl) (by kernel_rfl) (by kernel_rfl) (fun c a w h => h) rfl (by kernel_rfl) (by decide) (fun ls w => by simp) (fun ls w h1 h2 => h2.1) rfl rfl ?hy3 ⟨⟨a0d, b0d⟩, fun _ => dd⟩ ?rest3
  case hy3 => (intro w hSw; (try dsimp only at hSw); obtain ⟨hS1, hS2⟩ := hSw; go_simp; (try with_reducible rfl))
  try simp only [Act.put]
  refine wpAnyL_take (i := 4) (q := 5) (v := ?vv4) (fun w' => w'.cell? (la.add (i * 8)) = some (.int .i64 xid) ∧ w'.cell? (la.add (k * 8)) = some (.int .i64 yid)) rfl (by kernel_rfl) (by kernel_rfl) (by kernel_rfl) (fun c a w h => h) rfl (by kernel_rfl) (by decide) (fun ls w => by simp) (fun ls w h1 h2 => h2.1) rfl rfl ?hy4 ⟨⟨a0d, b0d⟩, fun _ => dd⟩ ?rest4
  case hy4 => (intro w hSw; (try dsimp only at hSw); obtain ⟨hS1, hS2⟩ := hSw; go_simp; (try with_reducible rfl))
  try simp only [Act.put]
  refine wpAnyL_take (i := 5) (q := 6) (v := ?vv5) (fun w' => w'.cell? (la.add (i * 8)) = some (.int .i64 xid) ∧ w'.cell? (la.add (k * 8)) = some (.int .i64 yid)) rfl (by kernel_rfl) (by kernel_rfl) (by kernel_rfl) (fun c a w h => h) rfl (by kernel_rfl) (by decide) (fun ls w => by simp) (fun ls w h1 h2 => h2.1) rfl rfl ?hy5 ⟨⟨a0d, b0d⟩, fun _ => dd⟩ ?rest5
  case hy5 => (intro w hSw; (try dsimp only at hSw); obtain ⟨hS1, hS2⟩ := hSw; go_simp; (try with_reducible rfl))
  try simp only [Act.put]
  refine wpAnyL_take (i := 6) (q := 23) (v := ?vv6) (fun w' => w'.cell? (la.add (i * 8)) = some (.int .i64 xid) ∧ w'.cell? (la.add (k * 8)) = some (.int .i64 yid)) rfl (by kernel_rfl) (by kernel_rfl) (by kernel_rfl) (fun c a w h => h) rfl (by kernel_rfl) (by decide) (fun ls w => by simp) (fun ls w h1 h2 => h2.1) rfl rfl ?hy6 ⟨⟨a0d, b0d⟩, fun _ => dd⟩ ?rest6
  case hy6 => (intro w hSw; (try dsimp only at hSw); obtain ⟨hS1, hS2⟩ := hSw; go_simp; (try with_reducible rfl))
  try simp only [Act.put]
  refine wpAnyL_take (i := 7) (q := 9) (v := ?vv7) (fun w' => w'.cell? (la.add (i * 8)) = some (.int .i64 xid) ∧ w'.cell? (la.add (k * 8)) = some (.int .i64 yid)) rfl (by kernel_rfl) (by kernel_rfl) (by kernel_rfl) (fun c a w h => h) rfl (by kernel_rfl) (by decide) (fun ls w => by simp) (fun ls w h1 h2 => h2.1) rfl rfl ?hy7 ⟨⟨a0d, b0d⟩, fun _ => dd⟩ ?rest7
  case hy7 => (intro w hSw; (try dsimp only at hSw); obtain ⟨hS1, hS2⟩ := hSw; go_simp; (try with_reducible rfl))
  try simp only [Act.put]
  refine wpAnyL_take (i := 8) (q := 9) (v := ?vv8) (fun w' => w'.cell? (la.add (i * 8)) = some (.int .i64 xid) ∧ w'.cell? (la.add (k * 8)) = some (.int .i64 yid)) rfl (by kernel_rfl) (by kernel_rfl) (by kernel_rfl) (fun c a w h => h) rfl (by kernel_rfl) (by decide) (fun ls w => by simp) (fun ls w h1 h2 => h2.1) rfl rfl ?hy8 ⟨⟨a0d, b0d⟩, fun _ => dd⟩ ?rest8
  case hy8 => (intro w hSw; (try dsimp only at hSw); obtain ⟨hS1, hS2⟩ := hSw; go_simp; (try with_reducible rfl))
  try simp only [Act.put]
  refine wpAnyL_take (i := 9) (q := 10) (v := ?vv9) (fun w' => w'.cell? (la.add (i * 8)) = some (.int .i64 xid) ∧ w'.cell? (la.add (k * 8)) = some (.int .i64 yid)) rfl (by kernel_rfl) (by kernel_rfl) (by kernel_rfl) (fun c a w h => h) rfl (by kernel_rfl) (by decide) (fun ls w => by simp) (fun ls w h1 h2 => h2.1) rfl rfl ?hy9 ⟨⟨a0d, b0d⟩, fun _ => dd⟩ ?rest9
  case hy9 => (intro w hSw; (try dsimp only at hSw); obtain ⟨hS1, hS2⟩ := hSw; go_simp; (try with_reducible rfl))
  try simp only [Act.put]
  refine wpAnyL_take (i := 10) (q := 11) (v := ?vv10) (fun w' => w'.cell? (la.add (i * 8)) = some (.int .i64 xid) ∧ w'.cell? (la.add (k * 8)) = some (.int .i64 yid)) rfl (by kernel_rfl) (by kernel_rfl) (by kernel_rfl) (fun c a w h => h) rfl (by kernel_rfl) (by decide) (fun ls w => by simp) (fun ls w h1 h2 => h2.1) rfl rfl ?hy10 ⟨⟨a0d, b0d⟩, fun _ => dd⟩ ?rest10
  case hy10 => (intro w hSw; (try dsimp only at hSw); obtain ⟨hS1, hS2⟩ := hSw; go_simp; (try with_reducible rfl))
  try simp only [Act.put]
  refine wpAnyL_take (i := 11) (q := 23) (v := ?vv11) (fun w' => w'.cell? (la.add (i * 8)) = some (.int .i64 xid) ∧ w'.cell? (la.add (k * 8)) = some (.int .i64 yid)) rfl (by kernel_rfl) (by kernel_rfl) (by kernel_rfl) (fun c a w h => h) rfl (by kernel_rfl) (by decide) (fun ls w => by simp) (fun ls w h1 h2 => h2.1) rfl rfl ?hy11 ⟨⟨a0d, b0d⟩, fun _ => dd⟩ ?rest11
  case hy11 => (intro w hSw; (try dsimp only at hSw); obtain ⟨hS1, hS2⟩ := hSw; go_simp; (try with_reducible rfl))
  try simp only [Act.put]
  refine wpAnyL_take (i := 12) (q := 23) (v := ?vv12) (fun w' => w'.cell? (la.add (i * 8)) = some (.int .i64 xid) ∧ w'.cell? (la.add (k * 8)) = some (.int .i64 yid)) rfl (by kernel_rfl) (by kernel_rfl) (by kernel_rfl) (fun c a w h => h) rfl (by kernel_rfl) (by decide) (fun ls w => by simp) (fun ls w h1 h2 => h2.1) rfl rfl ?hy12 ⟨⟨a0d, b0d⟩, fun _ => dd⟩ ?rest12
  case hy12 => (intro w hSw; (try dsimp only at hSw); obtain ⟨hS1, hS2⟩ := hSw; go_simp; (try with_reducible rfl))
  try simp only [Act.put]
  refine wpAnyL_take (i := 13) (q := 17) (v := ?vv13) (fun w' => w'.cell? (la.add (i * 8)) = some (.int .i64 xid) ∧ w'.cell? (la.add (k * 8)) = some (.int .i64 yid)) rfl (by kernel_rfl) (by kernel_rfl) (by kernel_rfl) (fun c a w h => h) rfl (by kernel_rfl) (by decide) (fun ls w => by simp) (fun ls w h1 h2 => h2.1) rfl rfl ?hy13 ⟨⟨a0d, b0d⟩, fun _ => dd⟩ ?rest13
  case hy13 => (intro w hSw; (try dsimp only at hSw); obtain ⟨hS1, hS2⟩ := hSw; go_simp; (try with_reducible rfl))
  try simp only [Act.put]
  refine wpAnyL_take (i := 14) (q := 16) (v := ?vv14) (fun w' => w'.cell? (la.add (i * 8)) = some (.int .i64 xid) ∧ w'.cell? (la.add (k * 8)) = some (.int .i64 yid)) rfl (by kernel_rfl) (by kernel_rfl) (by kernel_rfl) (fun c a w h => h) rfl (by kernel_rfl) (by decide) (fun ls w => by simp) (fun ls w h1 h2 => h2.1) rfl rfl ?hy14 ⟨⟨a0d, b0d⟩, fun _ => dd⟩ ?rest14
  case hy14 => (intro w hSw; (try dsimp only at hSw); obtain ⟨hS1, hS2⟩ := hSw; go_simp; (try with_reducible rfl))
  try simp only [Act.put]
  refine wpAnyL_take (i := 15) (q := 16) (v := ?vv15) (fun w' => w'.cell? (la.add (i * 8)) = some (.int .i64 xid) ∧ w'.cell? (la.add (k * 8)) = some (.int .i64 yid)) rfl (by kernel_rfl) (by kernel_rfl) (by kernel_rfl) (fun c a w h => h) rfl (by kernel_rfl) (by decide) (fun ls w => by simp) (fun ls w h1 h2 => h2.1) rfl rfl ?hy15 ⟨⟨a0d, b0d⟩, fun _ => dd⟩ ?rest15
  case hy15 => (intro w hSw; (try dsimp only at hSw); obtain ⟨hS1, hS2⟩ := hSw; go_simp; (try with_reducible rfl))
  try simp only [Act.put]
  refine wpAnyL_take (i := 16) (q := 17) (v := ?vv16) (fun w' => w'.cell? (la.add (i * 8)) = some (.int .i64 xid) ∧ w'.cell? (la.add (k * 8)) = some (.int .i64 yid)) rfl (by kernel_rfl) (by kernel_rfl) (by kernel_rfl) (fun c a w h => h) rfl (by kernel_rfl) (by decide) (fun ls w => by simp) (fun ls w h1 h2 => h2.1) rfl rfl ?hy16 ⟨⟨a0d, b0d⟩, fun _ => dd⟩ ?rest16
  case hy16 => (intro w hSw; (try dsimp only at hSw); obtain ⟨hS1, hS2⟩ := hSw; go_simp; (try with_reducible rfl))
  try simp only [Act.put]
  refine wpAnyL_take (i := 17) (q := 23) (v := ?vv17) (fun w' => w'.cell? (la.add (i * 8)) = some (.int .i64 xid) ∧ w'.cell? (la.add (k * 8)) = some (.int .i64 yid)) rfl (by kernel_rfl) (by kernel_rfl) (by kernel_rfl) (fun c a w h => h) rfl (by kernel_rfl) (by decide) (fun ls w => by simp) (fun ls w h1 h2 => h2.1) rfl rfl ?hy17 ⟨⟨a0d, b0d⟩, fun _ => dd⟩ ?rest17
  case hy17 => (intro w hSw; (try dsimp only at hSw); obtain ⟨hS1, hS2⟩ := hSw; go_simp; (try with_reducible rfl))
  try simp only [Act.put]
  refine wpAnyL_take (i := 18) (q := 22) (v := ?vv18) (fun w' => w'.cell? (la.add (i * 8)) = some (.int .i64 xid) ∧ w'.cell? (la.add (k * 8)) = some (.int .i64 yid)) rfl (by kernel_rfl) (by kernel_rfl) (by kernel_rfl) (fun c a w h => h) rfl (by kernel_rfl) (by decide) (fun ls w => by simp) (fun ls w h1 h2 => h2.1) rfl rfl ?hy18 ⟨⟨a0d, b0d⟩, fun _ => dd⟩ ?rest18
  case hy18 => (intro w hSw; (try dsimp only at hSw); obtain ⟨hS1, hS2⟩ := hSw; go_simp; (try with_reducible rfl))
  try simp only [Act.put]
  refine wpAnyL_take (i := 19) (q := 21) (v := ?vv19) (fun w' => w'.cell? (la.add (i * 8)) = some (.int .i64 xid) ∧ w'.cell? (la.add (k * 8)) = some (.int .i64 yid)) rfl (by kernel_rfl) (by kernel_rfl) (by kernel_rfl) (fun c a w h => h) rfl (by kernel_rfl) (by decide) (fun ls w => by simp) (fun ls w h1 h2 => h2.1) rfl rfl ?hy19 ⟨⟨a0d, b0d⟩, fun _ => dd⟩ ?rest19
  case hy19 => (intro w hSw; (try dsimp only at hSw); obtain ⟨hS1, hS2⟩ := hSw; go_simp; (try with_reducible rfl))
  try simp only [Act.put]
  refine wpAnyL_take (i := 20) (q := 21) (v := ?vv20) (fun w' => w'.cell? (la.add (i * 8)) = some (.int .i64 xid) ∧ w'.cell? (la.add (k * 8)) = some (.int .i64 yid)) rfl (by kernel_rfl) (by kernel_rfl) (by kernel_rfl) (fun c a w h => h) rfl (by kernel_rfl) (by decide) (fun ls w => by simp) (fun ls w h1 h2 => h2.1) rfl rfl ?hy20 ⟨⟨a0d, b0d⟩, fun _ => dd⟩ ?rest20
  case hy20 => (intro w hSw; (try dsimp only at hSw); obtain ⟨hS1, hS2⟩ := hSw; go_simp; (try with_reducible rfl))
  try simp only [Act.put]
  refine wpAnyL_take (i := 21) (q := 22) (v := ?vv21) (fun w' => w'.cell? (la.add (i * 8)) = some (.int .i64 xid) ∧ w'.cell? (la.add (k * 8)) = some (.int .i64 yid)) rfl (by kernel_rfl) (by kernel_rfl) (by kernel_rfl) (fun c a w h => h) rfl (by kernel_rfl) (by decide) (fun ls w => by simp) (fun ls w h1 h2 => h2.1) rfl rfl ?hy21 ⟨⟨a0d, b0d⟩, fun _ => dd⟩ ?rest21
  case hy21 => (intro w hSw; (try dsimp only at hSw); obtain ⟨hS1, hS2⟩ := hSw; go_simp; (try with_reducible rfl))
  try simp only [Act.put]
  refine wpAnyL_take (i := 22) (q := 23) (v := ?vv22) (fun w' => w'.cell? (la.add (i * 8)) = some (.int .i64 xid) ∧ w'.cell? (la.add (k * 8)) = some (.int .i64 yid)) rfl (by kernel_rfl) (by kernel_rfl) (by kernel_rfl) (fun c a w h => h) rfl (by kernel_rfl) (by decide) (fun ls w => by simp) (fun ls w h1 h2 => h2.1) rfl rfl ?hy22 ⟨⟨a0d, b0d⟩, fun _ => dd⟩ ?rest22
  case hy22 => (intro w hSw; (try dsimp only at hSw); obtain ⟨hS1, hS2⟩ := hSw; go_simp; (try with_reducible rfl))
  try simp only [Act.put]
  refine wpAnyL_take (i := 23) (q := 24) (v := ?vv23) (fun w' => w'.cell? (la.add (i * 8)) = some (.int .i64 xid) ∧ w'.cell? (la.add (k * 8)) = some (.int .i64 yid)) rfl (by kernel_rfl) (by kernel_rfl) (by kernel_rfl) (fun c a w h => h) rfl (by kernel_rfl) (by decide) (fun ls w => by simp) (fun ls w h1 h2 => h2.1) rfl rfl ?hy23 ⟨⟨a0d, b0d⟩, fun _ => dd⟩ ?rest23
  case hy23 => (intro w hSw; (try dsimp only at hSw); obtain ⟨hS1, hS2⟩ := hSw; go_simp; (try with_reducible rfl))
  try simp only [Act.put]
  refine wpAnyL_one (i := 24) (by kernel_rfl) ?_
  refine wpOp_K (fun K hK => ?_)
  refine wpOp_one rfl rfl ?_
  go_simp
  refine hK _ _ ⟨⟨⟨(World.cell?_alloc_lt X.drew _ (la.add (i * 8)) (Nat.lt_of_lt_of_le (by exact la0) hs3)).trans a0d, (World.cell?_alloc_lt X.drew _ (la.add (k * 8)) (Nat.lt_of_lt_of_le (by exact lb0) hs3)).trans b0d⟩, fun _ => ?_⟩, ?_⟩
  · exact (World.cell?_alloc_lt X.drew _ ⟨br, 0, none⟩ lr0).trans dd
  clear hK K
  try simp only [Act.put]
  refine wpAnyL_one (i := 25) (by kernel_rfl) ?_
  refine wpOp_K (fun K hK => ?_)
  refine wpOp_one rfl rfl ?_
  refine push_wp (w := X.drew) (w0 := W0) (cell := p5cell) (y := (⟨xid, yid, o, m1, m2⟩ : P5)) _ _ _ rfl base br 66 i0 _ 40 Tryz.underlying26 Hi.out Hz0.out Hz1.out Hz2.out rfl (by decide) v1 o1.length o1 (by simp [Act.eval]) rcd.p _ _ rfl 1 (by simp [Act.eval]) (p5_one _) (by unfold maxLen; omega) (by omega) hs3 (by omega) hBd ?_
  intro v' w' hown' hb' hg'
  have b1 := rcd.box.grown hg' (rcd.box.ne_own (by decide) rcd.p)
  obtain ⟨y0, y1, y2⟩ := b1.c3
  have f0 := b1.frozen 0
  obtain ⟨g', cap', rfl⟩ := ownsRow_succ hown'
  have hfar : ∀ b, b < base → w'.heap[b]? = X.heap[b]? := (fun b h1 => hg'.block b (Nat.lt_of_lt_of_le h1 hs3) (fun e => by have := (rcd.p.lt b e.symm).1; omega))
  have a0w : w'.cell? (la.add (i * 8)) = some (.int .i64 xid) := (World.cell?_of_block (hfar _ (by exact la0))).trans a0d
  have a0v : ∀ u, (w'.setCell ⟨br, 0, none⟩ u).cell? (la.add (i * 8)) = some (.int .i64 xid) := (fun u => (World.cell?_setCell_other w' ⟨br, 0, none⟩ (la.add (i * 8)) u (fun e => na0 (by first | exact congrArg Addr.block e | exact (congrArg Addr.block e).symm))).trans a0w)
  have b0w : w'.cell? (la.add (k * 8)) = some (.int .i64 yid) := (World.cell?_of_block (hfar _ (by exact lb0))).trans b0d
  have b0v : ∀ u, (w'.setCell ⟨br, 0, none⟩ u).cell? (la.add (k * 8)) = some (.int .i64 yid) := (fun u => (World.cell?_setCell_other w' ⟨br, 0, none⟩ (la.add (k * 8)) u (fun e => nb0 (by first | exact congrArg Addr.block e | exact (congrArg Addr.block e).symm))).trans b0w)
  refine hK _ _ ⟨⟨⟨a0w, b0w⟩, fun h => absurd h (by simp)⟩, ?_⟩
  clear hK K
  try simp only [Act.put, List.setIfInBounds_toArray]
  refine wpAnyL_take (i := 26) (q := 27) (v := ?vv26) (fun w' => w'.cell? (la.add (i * 8)) = some (.int .i64 xid) ∧ w'.cell? (la.add (k * 8)) = some (.int .i64 yid)) rfl (by kernel_rfl) (by kernel_rfl) (by kernel_rfl) (fun c a w h => h) rfl (by kernel_rfl) (by decide) (fun ls w => by simp) (fun ls w h1 h2 => h2.1) rfl rfl ?hy26 ⟨⟨a0w, b0w⟩, fun h => absurd h (by simp)⟩ ?rest26
  case hy26 => (intro w hSw; (try dsimp only at hSw); obtain ⟨hS1, hS2⟩ := hSw; go_simp; (try with_reducible rfl))
  try simp only [Act.put]
  refine wpAnyL_one (i := 27) (by kernel_rfl) ?_
  refine wpOp_K (fun K hK => ?_)
  refine wpOp_one rfl rfl ?_
  go_simp
  refine hK _ _ ⟨⟨⟨a0v _, b0v _⟩, fun h => absurd h (by simp)⟩, ?_⟩
  clear hK K
  refine wpAnyL_done (by kernel_rfl) (NoPanic.normal ?_) _
  exact hQ _ _ _ _ _ _ _ _ _ _ _ _ _ _ _ _ _ _ _ _ _ _ _ _ _ _ _ _ _ (rcd.addP (qs := [(⟨xid, yid, o, m1, m2⟩ : P5)]) hbr hown' (by rw [List.length_append]; rfl) hg') (hb'.setCell (p := ⟨br, 0, none⟩) (Nat.le_refl _) _) (by rw [World.size_setCell]; exact Nat.le_trans hs3 hg'.size) (fun b h1 h2 => (heap_setCell_other w' ⟨br, 0, none⟩ b _ h2).trans (hfar b h1))
end Go.Proofs.YtciolgmljpamlaaGreatDoor
end

section
namespace Go.Proofs.YtciolgmljpamlaaGreatDoor
open Go Go.RowKit
set_option maxRecDepth 100000
set_option maxHeartbeats 32000000 in
theorem b16_cp {Q : Exit → Act → World → Prop} {cd : Code} {dl : List Deferred} {Z0 Z1 Z2 Z4 Z5 Z6 Zc Zd Ze Zf Zg Zh Zi Zj Zk Zl Zm Zn Zo Zp Zq Zr Zs Zt Zu Zv Zw Zx Zy Zz Z10 Z11 Z12 Z13 Z14 Z15 Z16 Z17 Z18 Z19 Z1a Z1b Z1c Z1d Z1e Z1f Z1g Z1h Z1i Z1j Z1k Z1l Z1m Z1n Z1o Z1p Z1q Z1r Z1s Z1t Z1u Z1v Z1w Z1x Z1y Z1z Z20 Z21 Z22 Z23 Z24 Z25 Z26 Z27 Z28 Z29 Z2a Z2b Z2c Z2d Z2e Z2f Z2g Z2h Z2i Z2j Z2k Z2l Z2m Z2n Z2o Z2p Z2q Z2r Z2s Z2t Z2u Z2v Z2w Z2x Z2y Z2z Z30 Z31 Z32 Z33 Z34 Z35 Z36 Z37 Z38 Z39 Z3a Z3b Z3c Z3d Z3e Z3f Z3g Z3h Z3i Z3j Z3k Z3l Z3m Z3n Z3o Z3p Z3q Z3r Z3s Z3t Z3u Z3v Z3w Z3x Z3y Z3z Z40 Z41 Z42 Z43 Z44 Z45 Z46 Z47 : Value} (W H : Int) (GA PA : Option Addr) (gc pc : Nat) (G P : List Int) (SA : Option Addr) (sc : Nat) (ts : List SE) (lo hh m q : Int) (X : World) (bt br i : Nat) (tb : TB6 X bt W H GA PA gc pc G P) (hP : Pats X ts) (hok : ∀ j (hj : j < ts.length), M.okS W H G P ts[j].s = true) (W0 : World) (base : Nat) (v1 v2 v3 : Value) (o1 o2 : List P5) (o3 : List P4) (rc : RC X base br o1 o2 o3 v1 v2 v3) (hbr : br < base) (hB : Below br W0 X) (hs : base ≤ X.heap.size) (hL : Sl 8 secell X base SA ts) (hne : ∀ ad, SA = some ad → ad.block ≠ br) (hi : i < ts.length) (pl : Int) (hq : M.total P (M.area W H G ts[i].s) = pl) (hm : IntKind.i64.wrap (10 * pl) = m) (hd : IntKind.i64.wrap (m.tdiv 1000) = q) (hol : o3.length ≤ 15000) (hcd : (Tryz.f27.body.bind (regionOf 22)) = some cd)
    (hQ : ∀ (y130 y131 y132 y133 y134 y135 y136 y137 y138 y139 y140 y141 y142 y143 y144 y145 y146 y147 y148 y149 y150 : Value) (wo : World) (v' : Value), RC wo base br o1 o2 (o3 ++ [⟨ts[i].s.id, q, lo, hh⟩]) v1 v2 v' → Below br W0 wo → base ≤ wo.heap.size → (∀ b, b < base → b ≠ br → wo.heap[b]? = X.heap[b]?) → Q .normal ⟨#[Z0,Z1,Z2,.pointer (some ⟨bt, 0, none⟩),Z4,Z5,Z6,.pointer (some ⟨br, 0, none⟩),.slice SA ts.length sc,.int .i64 lo,.int .i64 hh,.int .i64 i,Zc,Zd,Ze,Zf,Zg,Zh,Zi,Zj,Zk,Zl,Zm,Zn,Zo,Zp,Zq,Zr,Zs,Zt,Zu,Zv,Zw,Zx,Zy,Zz,Z10,Z11,Z12,Z13,Z14,Z15,Z16,Z17,Z18,Z19,Z1a,Z1b,Z1c,Z1d,Z1e,Z1f,Z1g,Z1h,Z1i,Z1j,Z1k,Z1l,Z1m,Z1n,Z1o,Z1p,Z1q,Z1r,Z1s,Z1t,Z1u,Z1v,Z1w,Z1x,Z1y,Z1z,Z20,Z21,Z22,Z23,Z24,Z25,Z26,Z27,Z28,Z29,Z2a,Z2b,Z2c,Z2d,Z2e,Z2f,Z2g,Z2h,Z2i,Z2j,Z2k,Z2l,Z2m,Z2n,Z2o,Z2p,Z2q,Z2r,Z2s,Z2t,Z2u,Z2v,Z2w,Z2x,Z2y,Z2z,Z30,Z31,Z32,Z33,Z34,Z35,Z36,Z37,Z38,Z39,Z3a,Z3b,Z3c,Z3d,Z3e,Z3f,Z3g,Z3h,Z3i,Z3j,Z3k,Z3l,y130,y131,y132,y133,y134,y135,y136,y137,y138,y139,y140,y141,y142,y143,y144,y145,y146,y147,y148,y149,y150,Z47], dl⟩ wo) :
    cd.wp Tryz.prog Q ⟨#[Z0,Z1,Z2,.pointer (some ⟨bt, 0, none⟩),Z4,Z5,Z6,.pointer (some ⟨br, 0, none⟩),.slice SA ts.length sc,.int .i64 lo,.int .i64 hh,.int .i64 i,Zc,Zd,Ze,Zf,Zg,Zh,Zi,Zj,Zk,Zl,Zm,Zn,Zo,Zp,Zq,Zr,Zs,Zt,Zu,Zv,Zw,Zx,Zy,Zz,Z10,Z11,Z12,Z13,Z14,Z15,Z16,Z17,Z18,Z19,Z1a,Z1b,Z1c,Z1d,Z1e,Z1f,Z1g,Z1h,Z1i,Z1j,Z1k,Z1l,Z1m,Z1n,Z1o,Z1p,Z1q,Z1r,Z1s,Z1t,Z1u,Z1v,Z1w,Z1x,Z1y,Z1z,Z20,Z21,Z22,Z23,Z24,Z25,Z26,Z27,Z28,Z29,Z2a,Z2b,Z2c,Z2d,Z2e,Z2f,Z2g,Z2h,Z2i,Z2j,Z2k,Z2l,Z2m,Z2n,Z2o,Z2p,Z2q,Z2r,Z2s,Z2t,Z2u,Z2v,Z2w,Z2x,Z2y,Z2z,Z30,Z31,Z32,Z33,Z34,Z35,Z36,Z37,Z38,Z39,Z3a,Z3b,Z3c,Z3d,Z3e,Z3f,Z3g,Z3h,Z3i,Z3j,Z3k,Z3l,Z3m,Z3n,Z3o,Z3p,Z3q,Z3r,Z3s,Z3t,Z3u,Z3v,Z3w,Z3x,Z3y,Z3z,Z40,Z41,Z42,Z43,Z44,Z45,Z46,Z47], dl⟩ X := by
  rw [show (Tryz.f27.body.bind (regionOf 22)) = some (Code.region 22 _ true) from rfl] at hcd
  obtain rfl := Option.some.inj hcd
  clear hcd
  dsimp only at hQ ⊢
  obtain ⟨i0, hi0, hz0, hz1, hz2⟩ := info_parts capInfo
  have Hi := Lib.hid hi0; have Hz0 := Lib.hid hz0; have Hz1 := Lib.hid hz1; have Hz2 := Lib.hid hz2
  clear hi0 hz0 hz1 hz2
  obtain ⟨y0, y1, y2⟩ := rc.box.c3
  have f2 := rc.box.frozen 2
  have lr0 := rc.box.lt
  have x0 : (0 : Int) ≤ (i : Int) := by omega
  have x1 : (i : Int) < (ts.length : Int) := by omega
  obtain ⟨la, hla, lB1, a0, a1, a2, a3, a4, a5, a6, a7⟩ := hL.st8 hi
  obtain ⟨t0, t1, t2, t3⟩ := tb.box.c4
  have nb := hne _ hla
  have hPa := hP.at_ hi
  have hdr : Below X.heap.size X X.drew := (Below.refl X.heap.size X).drew
  have k1 := people16_ok W H GA PA gc pc G P ts[i].s ts[i].A ts[i].c X.drew ((tb.g.below hdr).more hdr.size) ((tb.p.below hdr).more hdr.size) ((hPa.below hdr).more hdr.size) (hok i hi)
  rw [hq] at k1
  clear hPa hP hok hL hne hq
  generalize ts[i] = x at *
  subst hla
  have la0 : (la.add (i * 8)).block < base := by first | exact lB1 | (rw [add_block]; exact lB1) | (rw [add_block] at lB1 ⊢; exact lB1)
  have na0 : (la.add (i * 8)).block ≠ br := by rw [add_block]; exact nb
  have za0 : (la.add (i * 8)).block < X.heap.size := Nat.lt_of_lt_of_le la0 hs
  have rcd := rc.below (Below.refl X.heap.size X).drew
  have hBd := hB.drew
  have hs3 : base ≤ X.drew.heap.size := hs
  have t0d : X.drew.cell? ⟨bt, 0, none⟩ = some (.int .i64 W) := t0
  have t1d : X.drew.cell? ⟨bt, 1, none⟩ = some (.int .i64 H) := t1
  have t2d : X.drew.cell? ⟨bt, 2, none⟩ = some (.slice GA G.length gc) := t2
  have t3d : X.drew.cell? ⟨bt, 3, none⟩ = some (.slice PA P.length pc) := t3
  have a0d : X.drew.cell? (la.add (i * 8)) = some (.int .i64 x.s.id) := a0
  have a1d : X.drew.cell? ⟨(la.add (i * 8)).block, (la.add (i * 8)).off + 1, none⟩ = some (.int .i64 x.s.x) := a1
  have a2d : X.drew.cell? ⟨(la.add (i * 8)).block, (la.add (i * 8)).off + 2, none⟩ = some (.int .i64 x.s.y) := a2
  have a3d : X.drew.cell? ⟨(la.add (i * 8)).block, (la.add (i * 8)).off + 3, none⟩ = some (.int .i64 x.s.pw) := a3
  have a4d : X.drew.cell? ⟨(la.add (i * 8)).block, (la.add (i * 8)).off + 4, none⟩ = some (.int .i64 x.s.h) := a4
  have a5d : X.drew.cell? ⟨(la.add (i * 8)).block, (la.add (i * 8)).off + 5, none⟩ = some (.slice x.A x.s.pat.length x.c) := a5
  have a6d : X.drew.cell? ⟨(la.add (i * 8)).block, (la.add (i * 8)).off + 6, none⟩ = some (.int .i64 x.s.band) := a6
  have a7d : X.drew.cell? ⟨(la.add (i * 8)).block, (la.add (i * 8)).off + 7, none⟩ = some (.int .i64 x.s.ch) := a7
  have dd : X.drew.cell? ⟨br, 2, none⟩ = some v3 := y2
  clear tb t0 t1 t2 t3 a0 a1 a2 a3 a4 a5 a6 a7 y0 y1 y2
  refine wp_region_noPanic ?_
  refine wp_region_any (by kernel_rfl) ?_
  refine wpAny_of_L (S := (fun ls w' => (w'.cell? (la.add (i * 8)) = some (.int .i64 x.s.id)) ∧ (ls.getD 12 true = false → w'.cell? ⟨bt, 0, none⟩ = some (.int .i64 W) ∧ w'.cell? ⟨bt, 1, none⟩ = some (.int .i64 H) ∧ w'.cell? ⟨bt, 2, none⟩ = some (.slice GA G.length gc) ∧ w'.cell? ⟨bt, 3, none⟩ = some (.slice PA P.length pc) ∧ w'.cell? (la.add (i * 8)) = some (.int .i64 x.s.id) ∧ w'.cell? ⟨(la.add (i * 8)).block, (la.add (i * 8)).off + 1, none⟩ = some (.int .i64 x.s.x) ∧ w'.cell? ⟨(la.add (i * 8)).block, (la.add (i * 8)).off + 2, none⟩ = some (.int .i64 x.s.y) ∧ w'.cell? ⟨(la.add (i * 8)).block, (la.add (i * 8)).off + 3, none⟩ = some (.int .i64 x.s.pw) ∧ w'.cell? ⟨(la.add (i * 8)).block, (la.add (i * 8)).off + 4, none⟩ = some (.int .i64 x.s.h) ∧ w'.cell? ⟨(la.add (i * 8)).block, (la.add (i * 8)).off + 5, none⟩ = some (.slice x.A x.s.pat.length x.c) ∧ w'.cell? ⟨(la.add (i * 8)).block, (la.add (i * 8)).off + 6, none⟩ = some (.int .i64 x.s.band) ∧ w'.cell? ⟨(la.add (i * 8)).block, (la.add (i * 8)).off + 7, none⟩ = some (.int .i64 x.s.ch)) ∧ (ls.getD 19 true = false → w'.cell? ⟨br, 2, none⟩ = some v3))) _ _ _ _ ?_
  change wpAnyL Tryz.prog _ _ _ _ _ _ _ X.drew
  refine wpAnyL_take (i := 0) (q := 1) (v := ?vv0) (fun w' => True) rfl (by kernel_rfl) (by kernel_rfl) (by kernel_rfl) (fun c a w h => h) rfl (by kernel_rfl) (by decide) (fun ls w => by simp) (fun ls w h1 h2 => trivial) rfl rfl ?hy0 ⟨a0d, fun _ => ⟨t0d, t1d, t2d, t3d, a0d, a1d, a2d, a3d, a4d, a5d, a6d, a7d⟩, fun _ => dd⟩ ?rest0
  case hy0 => (intro w hSw; (try dsimp only at hSw); clear hSw; go_simp; (try with_reducible rfl))
  try simp only [Act.put, List.setIfInBounds_toArray]
  refine wpAnyL_take (i := 1) (q := 19) (v := ?vv1) (fun w' => w'.cell? ⟨br, 2, none⟩ = some v3) rfl (by kernel_rfl) (by kernel_rfl) (by kernel_rfl) (fun c a w h => h) rfl (by kernel_rfl) (by decide) (fun ls w => by simp) (fun ls w h1 h2 => h2.2.2 h1) rfl rfl ?hy1 ⟨a0d, fun _ => ⟨t0d, t1d, t2d, t3d, a0d, a1d, a2d, a3d, a4d, a5d, a6d, a7d⟩, fun _ => dd⟩ ?rest1
  case hy1 => (intro w hSw; (try dsimp only at hSw); go_simp; (try with_reducible rfl))
  try simp only [Act.put]
  refine wpAnyL_take (i := 2) (q := 4) (v := ?vv2) (fun w' => True) rfl (by kernel_rfl) (by kernel_rfl) (by kernel_rfl) (fun c a w h => h) rfl (by kernel_rfl) (by decide) (fun ls w => by simp) (fun ls w h1 h2 => trivial) rfl rfl ?hy2 ⟨a0d, fun _ => ⟨t0d, t1d, t2d, t3d, a0d, a1d, a2d, a3d, a4d, a5d, a6d, a7d⟩, fun _ => dd⟩ ?rest2
  case hy2 => (intro w hSw; (try dsimp only at hSw); clear hSw; go_simp; (try with_reducible rfl))
  try simp only [Act.put]
  refine wpAnyL_take (i := 3) (q := 4) (v := ?vv3) (fun w' => True) rfl (by kernel_rfl) (by kernel_rfl) (by kernel_rfl) (fun c a w h => h) rfl (by kernel_rfl) (by decide) (fun ls w => by simp) (fun ls w h1 h2 => trivial) rfl rfl ?hy3 ⟨a0d, fun _ => ⟨t0d, t1d, t2d, t3d, a0d, a1d, a2d, a3d, a4d, a5d, a6d, a7d⟩, fun _ => dd⟩ ?rest3
  case hy3 => (intro w hSw; (try dsimp only at hSw); clear hSw; go_simp; (try with_reducible rfl))
  try simp only [Act.put]
  refine wpAnyL_take (i := 4) (q := 5) (v := ?vv4) (fun w' => True) rfl (by kernel_rfl) (by kernel_rfl) (by kernel_rfl) (fun c a w h => h) rfl (by kernel_rfl) (by decide) (fun ls w => by simp) (fun ls w h1 h2 => trivial) rfl rfl ?hy4 ⟨a0d, fun _ => ⟨t0d, t1d, t2d, t3d, a0d, a1d, a2d, a3d, a4d, a5d, a6d, a7d⟩, fun _ => dd⟩ ?rest4
  case hy4 => (intro w hSw; (try dsimp only at hSw); clear hSw; go_simp; (try with_reducible rfl))
  try simp only [Act.put]
  refine wpAnyL_take (i := 5) (q := 6) (v := ?vv5) (fun w' => True) rfl (by kernel_rfl) (by kernel_rfl) (by kernel_rfl) (fun c a w h => h) rfl (by kernel_rfl) (by decide) (fun ls w => by simp) (fun ls w h1 h2 => trivial) rfl rfl ?hy5 ⟨a0d, fun _ => ⟨t0d, t1d, t2d, t3d, a0d, a1d, a2d, a3d, a4d, a5d, a6d, a7d⟩, fun _ => dd⟩ ?rest5
  case hy5 => (intro w hSw; (try dsimp only at hSw); clear hSw; go_simp; (try with_reducible rfl))
  try simp only [Act.put]
  refine wpAnyL_take (i := 6) (q := 17) (v := ?vv6) (fun w' => w'.cell? (la.add (i * 8)) = some (.int .i64 x.s.id)) rfl (by kernel_rfl) (by kernel_rfl) (by kernel_rfl) (fun c a w h => h) rfl (by kernel_rfl) (by decide) (fun ls w => by simp) (fun ls w h1 h2 => h2.1) rfl rfl ?hy6 ⟨a0d, fun _ => ⟨t0d, t1d, t2d, t3d, a0d, a1d, a2d, a3d, a4d, a5d, a6d, a7d⟩, fun _ => dd⟩ ?rest6
  case hy6 => (intro w hSw; (try dsimp only at hSw); go_simp; (try with_reducible rfl))
  try simp only [Act.put]
  refine wpAnyL_take (i := 7) (q := 12) (v := ?vv7) (fun w' => w'.cell? ⟨bt, 0, none⟩ = some (.int .i64 W) ∧ w'.cell? ⟨bt, 1, none⟩ = some (.int .i64 H) ∧ w'.cell? ⟨bt, 2, none⟩ = some (.slice GA G.length gc) ∧ w'.cell? ⟨bt, 3, none⟩ = some (.slice PA P.length pc) ∧ w'.cell? (la.add (i * 8)) = some (.int .i64 x.s.id) ∧ w'.cell? ⟨(la.add (i * 8)).block, (la.add (i * 8)).off + 1, none⟩ = some (.int .i64 x.s.x) ∧ w'.cell? ⟨(la.add (i * 8)).block, (la.add (i * 8)).off + 2, none⟩ = some (.int .i64 x.s.y) ∧ w'.cell? ⟨(la.add (i * 8)).block, (la.add (i * 8)).off + 3, none⟩ = some (.int .i64 x.s.pw) ∧ w'.cell? ⟨(la.add (i * 8)).block, (la.add (i * 8)).off + 4, none⟩ = some (.int .i64 x.s.h) ∧ w'.cell? ⟨(la.add (i * 8)).block, (la.add (i * 8)).off + 5, none⟩ = some (.slice x.A x.s.pat.length x.c) ∧ w'.cell? ⟨(la.add (i * 8)).block, (la.add (i * 8)).off + 6, none⟩ = some (.int .i64 x.s.band) ∧ w'.cell? ⟨(la.add (i * 8)).block, (la.add (i * 8)).off + 7, none⟩ = some (.int .i64 x.s.ch)) rfl (by kernel_rfl) (by kernel_rfl) (by kernel_rfl) (fun c a w h => h) rfl (by kernel_rfl) (by decide) (fun ls w => by simp) (fun ls w h1 h2 => h2.2.1 h1) rfl rfl ?hy7 ⟨a0d, fun _ => ⟨t0d, t1d, t2d, t3d, a0d, a1d, a2d, a3d, a4d, a5d, a6d, a7d⟩, fun _ => dd⟩ ?rest7
  case hy7 => (intro w hSw; (try dsimp only at hSw); obtain ⟨h0, h1, h2, h3, h4, h5, h6, h7, h8, h9, h10, h11⟩ := hSw; go_simp; (try with_reducible rfl))
  try simp only [Act.put]
  refine wpAnyL_take (i := 8) (q := 10) (v := ?vv8) (fun w' => True) rfl (by kernel_rfl) (by kernel_rfl) (by kernel_rfl) (fun c a w h => h) rfl (by kernel_rfl) (by decide) (fun ls w => by simp) (fun ls w h1 h2 => trivial) rfl rfl ?hy8 ⟨a0d, fun _ => ⟨t0d, t1d, t2d, t3d, a0d, a1d, a2d, a3d, a4d, a5d, a6d, a7d⟩, fun _ => dd⟩ ?rest8
  case hy8 => (intro w hSw; (try dsimp only at hSw); clear hSw; go_simp; (try with_reducible rfl))
  try simp only [Act.put]
  refine wpAnyL_take (i := 9) (q := 10) (v := ?vv9) (fun w' => True) rfl (by kernel_rfl) (by kernel_rfl) (by kernel_rfl) (fun c a w h => h) rfl (by kernel_rfl) (by decide) (fun ls w => by simp) (fun ls w h1 h2 => trivial) rfl rfl ?hy9 ⟨a0d, fun _ => ⟨t0d, t1d, t2d, t3d, a0d, a1d, a2d, a3d, a4d, a5d, a6d, a7d⟩, fun _ => dd⟩ ?rest9
  case hy9 => (intro w hSw; (try dsimp only at hSw); clear hSw; go_simp; (try with_reducible rfl))
  try simp only [Act.put]
  refine wpAnyL_take (i := 10) (q := 11) (v := ?vv10) (fun w' => True) rfl (by kernel_rfl) (by kernel_rfl) (by kernel_rfl) (fun c a w h => h) rfl (by kernel_rfl) (by decide) (fun ls w => by simp) (fun ls w h1 h2 => trivial) rfl rfl ?hy10 ⟨a0d, fun _ => ⟨t0d, t1d, t2d, t3d, a0d, a1d, a2d, a3d, a4d, a5d, a6d, a7d⟩, fun _ => dd⟩ ?rest10
  case hy10 => (intro w hSw; (try dsimp only at hSw); clear hSw; go_simp; (try with_reducible rfl))
  try simp only [Act.put]
  refine wpAnyL_take (i := 11) (q := 12) (v := ?vv11) (fun w' => w'.cell? ⟨bt, 0, none⟩ = some (.int .i64 W) ∧ w'.cell? ⟨bt, 1, none⟩ = some (.int .i64 H) ∧ w'.cell? ⟨bt, 2, none⟩ = some (.slice GA G.length gc) ∧ w'.cell? ⟨bt, 3, none⟩ = some (.slice PA P.length pc) ∧ w'.cell? (la.add (i * 8)) = some (.int .i64 x.s.id) ∧ w'.cell? ⟨(la.add (i * 8)).block, (la.add (i * 8)).off + 1, none⟩ = some (.int .i64 x.s.x) ∧ w'.cell? ⟨(la.add (i * 8)).block, (la.add (i * 8)).off + 2, none⟩ = some (.int .i64 x.s.y) ∧ w'.cell? ⟨(la.add (i * 8)).block, (la.add (i * 8)).off + 3, none⟩ = some (.int .i64 x.s.pw) ∧ w'.cell? ⟨(la.add (i * 8)).block, (la.add (i * 8)).off + 4, none⟩ = some (.int .i64 x.s.h) ∧ w'.cell? ⟨(la.add (i * 8)).block, (la.add (i * 8)).off + 5, none⟩ = some (.slice x.A x.s.pat.length x.c) ∧ w'.cell? ⟨(la.add (i * 8)).block, (la.add (i * 8)).off + 6, none⟩ = some (.int .i64 x.s.band) ∧ w'.cell? ⟨(la.add (i * 8)).block, (la.add (i * 8)).off + 7, none⟩ = some (.int .i64 x.s.ch)) rfl (by kernel_rfl) (by kernel_rfl) (by kernel_rfl) (fun c a w h => h) rfl (by kernel_rfl) (by decide) (fun ls w => by simp) (fun ls w h1 h2 => h2.2.1 h1) rfl rfl ?hy11 ⟨a0d, fun _ => ⟨t0d, t1d, t2d, t3d, a0d, a1d, a2d, a3d, a4d, a5d, a6d, a7d⟩, fun _ => dd⟩ ?rest11
  case hy11 => (intro w hSw; (try dsimp only at hSw); obtain ⟨h0, h1, h2, h3, h4, h5, h6, h7, h8, h9, h10, h11⟩ := hSw; go_simp; (try with_reducible rfl))
  try simp only [Act.put]
  refine wpAnyL_take (i := 15) (q := 17) (v := ?vv15) (fun w' => True) rfl (by kernel_rfl) (by kernel_rfl) (by kernel_rfl) (fun c a w h => h) rfl (by kernel_rfl) (by decide) (fun ls w => by simp) (fun ls w h1 h2 => trivial) rfl rfl ?hy15 ⟨a0d, fun _ => ⟨t0d, t1d, t2d, t3d, a0d, a1d, a2d, a3d, a4d, a5d, a6d, a7d⟩, fun _ => dd⟩ ?rest15
  case hy15 => (intro w hSw; (try dsimp only at hSw); clear hSw; go_simp; (try with_reducible rfl))
  try simp only [Act.put]
  refine wpAnyL_take (i := 16) (q := 17) (v := ?vv16) (fun w' => True) rfl (by kernel_rfl) (by kernel_rfl) (by kernel_rfl) (fun c a w h => h) rfl (by kernel_rfl) (by decide) (fun ls w => by simp) (fun ls w h1 h2 => trivial) rfl rfl ?hy16 ⟨a0d, fun _ => ⟨t0d, t1d, t2d, t3d, a0d, a1d, a2d, a3d, a4d, a5d, a6d, a7d⟩, fun _ => dd⟩ ?rest16
  case hy16 => (intro w hSw; (try dsimp only at hSw); clear hSw; go_simp; (try with_reducible rfl))
  try simp only [Act.put]
  refine wpAnyL_one (i := 12) (by kernel_rfl) ?_
  refine wpOp_K (fun K hK => ?_)
  refine wpOp_one rfl rfl ?_
  go_simp
  refine k1.mono ?_
  rintro e w5 ⟨rfl, hb5⟩
  dsimp only
  have a0e : w5.cell? (la.add (i * 8)) = some (.int .i64 x.s.id) := (World.cell?_of_block (hb5.block _ (by exact za0))).trans a0d
  have dde : w5.cell? ⟨br, 2, none⟩ = some v3 := (World.cell?_of_block (hb5.block _ (by exact lr0))).trans dd
  have rc5 := rcd.below hb5
  have hB5 := hBd.trans (hb5.mono (by omega))
  have hs5 : base ≤ w5.heap.size := Nat.le_trans hs3 hb5.size
  refine hK _ _ ⟨⟨a0e, fun h => absurd h (by simp), fun _ => dde⟩, ?_⟩
  clear hK K rcd hBd k1 t0d t1d t2d t3d a0d a1d a2d a3d a4d a5d a6d a7d dd
  try simp only [Act.put, List.setIfInBounds_toArray]
  refine wpAnyL_take (i := 13) (q := 14) (v := ?vv13) (fun w' => True) rfl (by kernel_rfl) (by kernel_rfl) (by kernel_rfl) (fun c a w h => h) rfl (by kernel_rfl) (by decide) (fun ls w => by simp) (fun ls w h1 h2 => trivial) rfl rfl ?hy13 ⟨a0e, fun h => absurd h (by simp), fun _ => dde⟩ ?rest13
  case hy13 => (intro w hSw; (try dsimp only at hSw); clear hSw; go_simp; (try with_reducible rfl))
  try simp only [Act.put]
  refine wpAnyL_take (i := 14) (q := 17) (v := ?vv14) (fun w' => True) rfl (by kernel_rfl) (by kernel_rfl) (by kernel_rfl) (fun c a w h => h) rfl (by kernel_rfl) (by decide) (fun ls w => by simp) (fun ls w h1 h2 => trivial) rfl rfl ?hy14 ⟨a0e, fun h => absurd h (by simp), fun _ => dde⟩ ?rest14
  case hy14 => (intro w hSw; (try dsimp only at hSw); clear hSw; go_simp; (try with_reducible rfl))
  try simp only [Act.put]
  refine wpAnyL_take (i := 17) (q := 18) (v := ?vv17) (fun w' => True) rfl (by kernel_rfl) (by kernel_rfl) (by kernel_rfl) (fun c a w h => h) rfl (by kernel_rfl) (by decide) (fun ls w => by simp) (fun ls w h1 h2 => trivial) rfl rfl ?hy17 ⟨a0e, fun h => absurd h (by simp), fun _ => dde⟩ ?rest17
  case hy17 => (intro w hSw; (try dsimp only at hSw); clear hSw; go_simp; (try with_reducible rfl))
  try simp only [Act.put]
  refine wpAnyL_one (i := 18) (by kernel_rfl) ?_
  refine wpOp_K (fun K hK => ?_)
  refine wpOp_one rfl rfl ?_
  go_simp
  refine hK _ _ ⟨⟨(World.cell?_alloc_lt w5 _ (la.add (i * 8)) (Nat.lt_of_lt_of_le (by exact la0) hs5)).trans a0e, fun h => absurd h (by simp), fun _ => ?_⟩, ?_⟩
  · exact (World.cell?_alloc_lt w5 _ ⟨br, 2, none⟩ (Nat.lt_of_lt_of_le lr0 hb5.size)).trans dde
  clear hK K
  try simp only [Act.put]
  refine wpAnyL_one (i := 19) (by kernel_rfl) ?_
  refine wpOp_K (fun K hK => ?_)
  refine wpOp_one rfl rfl ?_
  refine push_wp (w := w5) (w0 := W0) (cell := p4cell) (y := (⟨x.s.id, q, lo, hh⟩ : P4)) _ _ _ rfl base br 71 i0 _ 32 Tryz.underlying28 Hi.out Hz0.out Hz1.out Hz2.out rfl (by decide) v3 o3.length o3 (by simp [Act.eval]) rc5.c _ _ rfl 1 (by simp [Act.eval]) (p4_one _) (by unfold maxLen; omega) (by omega) hs5 (by omega) hB5 ?_
  intro v' w' hown' hb' hg'
  have b1 := rc5.box.grown hg' (rc5.box.ne_own (by decide) rc5.c)
  obtain ⟨y0, y1, y2⟩ := b1.c3
  have f2 := b1.frozen 2
  obtain ⟨g', cap', rfl⟩ := ownsRow_succ hown'
  have hfar : ∀ b, b < base → w'.heap[b]? = X.heap[b]? := (fun b h1 => (hg'.block b (Nat.lt_of_lt_of_le h1 hs5) (fun e => by have := (rc5.c.lt b e.symm).1; omega)).trans (hb5.block b (Nat.lt_of_lt_of_le h1 hs3)))
  have a0w : w'.cell? (la.add (i * 8)) = some (.int .i64 x.s.id) := (World.cell?_of_block ((hg'.block _ (Nat.lt_of_lt_of_le (by exact la0) hs5) (fun e => by have := (rc5.c.lt _ e.symm).1; omega)))).trans a0e
  have a0v : ∀ u, (w'.setCell ⟨br, 2, none⟩ u).cell? (la.add (i * 8)) = some (.int .i64 x.s.id) := (fun u => (World.cell?_setCell_other w' ⟨br, 2, none⟩ (la.add (i * 8)) u (fun e => na0 (by first | exact congrArg Addr.block e | exact (congrArg Addr.block e).symm))).trans a0w)
  refine hK _ _ ⟨⟨a0w, fun h => absurd h (by simp), fun h => absurd h (by simp)⟩, ?_⟩
  clear hK K
  try simp only [Act.put, List.setIfInBounds_toArray]
  refine wpAnyL_take (i := 20) (q := 21) (v := ?vv20) (fun w' => True) rfl (by kernel_rfl) (by kernel_rfl) (by kernel_rfl) (fun c a w h => h) rfl (by kernel_rfl) (by decide) (fun ls w => by simp) (fun ls w h1 h2 => trivial) rfl rfl ?hy20 ⟨a0w, fun h => absurd h (by simp), fun h => absurd h (by simp)⟩ ?rest20
  case hy20 => (intro w hSw; (try dsimp only at hSw); clear hSw; go_simp; (try with_reducible rfl))
  try simp only [Act.put]
  refine wpAnyL_one (i := 21) (by kernel_rfl) ?_
  refine wpOp_K (fun K hK => ?_)
  refine wpOp_one rfl rfl ?_
  go_simp
  refine hK _ _ ⟨⟨a0v _, fun h => absurd h (by simp), fun h => absurd h (by simp)⟩, ?_⟩
  clear hK K
  refine wpAnyL_done (by kernel_rfl) (NoPanic.normal ?_) _
  exact hQ _ _ _ _ _ _ _ _ _ _ _ _ _ _ _ _ _ _ _ _ _ _ _ (rc5.addC (qs := [(⟨x.s.id, q, lo, hh⟩ : P4)]) hbr hown' (by rw [List.length_append]; rfl) hg') (hb'.setCell (p := ⟨br, 2, none⟩) (Nat.le_refl _) _) (by rw [World.size_setCell]; exact Nat.le_trans hs5 hg'.size) (fun b h1 h2 => (heap_setCell_other w' ⟨br, 2, none⟩ b _ h2).trans (hfar b h1))
end Go.Proofs.YtciolgmljpamlaaGreatDoor
end

section
namespace Go.Proofs.YtciolgmljpamlaaGreatDoor
open Go Go.RowKit
set_option maxRecDepth 100000
namespace M
section
variable {α : Type} (id : α → Int) (fb : α → α → Int → Bool) (lo hi : Int)
def bpF (s t : α) (o : Int) : List P5 := (if o ≤ -1 then bpO id fb lo hi s t (-1) else []) ++ ((if o ≤ 0 then bpO id fb lo hi s t 0 else []) ++ (if o ≤ 1 then bpO id fb lo hi s t 1 else []))
theorem bpF_start (s t : α) : bpF id fb lo hi s t (-1) = bpT id fb lo hi s t := by
  unfold bpF bpT; rw [if_pos (by omega), if_pos (by omega), if_pos (by omega), List.append_assoc]
theorem bpF_end (s t : α) : bpF id fb lo hi s t 2 = [] := by
  unfold bpF; rw [if_neg (by omega), if_neg (by omega), if_neg (by omega)]; rfl
theorem bpF_step (s t : α) {o : Int} (h1 : -1 ≤ o) (h2 : o ≤ 1) : bpF id fb lo hi s t o = bpO id fb lo hi s t o ++ bpF id fb lo hi s t (o + 1) := by
  unfold bpF
  rcases (show o = -1 ∨ o = 0 ∨ o = 1 by omega) with e | e | e <;> subst e
  · rw [if_pos (by omega), if_pos (by omega), if_pos (by omega), if_neg (by omega), if_pos (by omega), if_pos (by omega)]; rfl
  · rw [if_neg (by omega), if_pos (by omega), if_pos (by omega), if_neg (by omega), if_neg (by omega), if_pos (by omega)]; rfl
  · rw [if_neg (by omega), if_neg (by omega), if_pos (by omega), if_neg (by omega), if_neg (by omega), if_neg (by omega)]; simp
end
end M
structure BL (w3 wq : World) (base br : Nat) (o1 o2 : List P5) (o3 : List P4) (v1 v2 v3 : Value) : Prop where
  below : Below br w3 wq
  hbr : br < base
  hs : base ≤ wq.heap.size
  keep : ∀ b, b < base → b ≠ br → wq.heap[b]? = w3.heap[b]?
  rc : RC wq base br o1 o2 o3 v1 v2 v3
theorem BL.next {w3 wq w' : World} {base br : Nat} {o1 o2 : List P5} {o3 : List P4} {v1 v2 v3 : Value} (h : BL w3 wq base br o1 o2 o3 v1 v2 v3) (hb : Below wq.heap.size wq w') : BL w3 w' base br o1 o2 o3 v1 v2 v3 :=
  ⟨h.below.trans (hb.mono (Nat.le_trans (Nat.le_of_lt h.hbr) h.hs)), h.hbr, Nat.le_trans h.hs hb.size, fun b h1 h2 => (hb.block b (Nat.lt_of_lt_of_le h1 h.hs)).trans (h.keep b h1 h2), h.rc.below hb⟩
theorem BL.upd {w3 wq w' : World} {base br : Nat} {o1 o2 q1 q2 : List P5} {o3 q3 : List P4} {v1 v2 v3 u1 u2 u3 : Value} (h : BL w3 wq base br o1 o2 o3 v1 v2 v3) (hr : RC w' base br q1 q2 q3 u1 u2 u3) (hb : Below br w3 w') (hs : base ≤ w'.heap.size) (hk : ∀ b, b < base → b ≠ br → w'.heap[b]? = wq.heap[b]?) : BL w3 w' base br q1 q2 q3 u1 u2 u3 :=
  ⟨hb, h.hbr, hs, fun b h1 h2 => (hk b h1 h2).trans (h.keep b h1 h2), hr⟩
def RetR1 (w : World) (r : List P5 × List P5 × List P4) (e : Ending) (w' : World) : Prop :=
  ∃ XA xc YA yc ZA zc, e = .returned (ruv XA r.1.length xc YA r.2.1.length yc ZA r.2.2.length zc) ∧ RW w' XA YA ZA r.1 r.2.1 r.2.2 ∧ (r.1.length ≤ xc ∧ r.2.1.length ≤ yc ∧ r.2.2.length ≤ zc) ∧ Below w.heap.size w w'
theorem RetR1.eq {w w' : World} {r r' : List P5 × List P5 × List P4} {e : Ending} (h : RetR1 w r e w') (he : r' = r) : RetR1 w r' e w' := by rw [he]; exact h
set_option maxHeartbeats 64000000 in
theorem rbuild16_ok (W H : Int) (GA PA : Option Addr) (gc pc : Nat) (G P : List Int) (LA : Option Addr) (lc : Nat) (es : List SE) (b : Int) (w : World) (hg : Sl 1 icell w w.heap.size GA G) (hp : Sl 1 icell w w.heap.size PA P) (hL : Sl 8 secell w w.heap.size LA es) (hP : Pats w es) (hn : es.length ≤ 4) (hb : 1 ≤ b ∧ b ≤ 3) (hok : M.cbOk W H G P (es.map (·.s))) :
    Calls Tryz.prog 27 #[tv W H GA PA G.length gc P.length pc, .slice LA es.length lc, .int .i64 b] w (RetR1 w (M.gP W H G P b (es.map (·.s)), M.gL W H G P b (es.map (·.s)), M.gC W H G P b (es.map (·.s)))) := by
  obtain ⟨V, HW, xt, xr, xk, hB, hVs⟩ := boxes3 w #[.int .i64 W, .int .i64 H, .slice GA G.length gc, .slice PA P.length pc] 24 #[.slice none 0 0, .slice none 0 0, .slice none 0 0] 30 #[.slice none 0 0, .slice none 0 0, .slice none 0 0] 30
  have hkV : w.heap.size + 1 + 1 < V.heap.size := xk.lt
  clear hVs
  have htv := hok.2.1
  obtain ⟨t1, t2, t3, t4, t5, t6⟩ := M.tvalid_iff.1 htv
  have hwh := M.wh_le t1 t2
  have HWH : Hid ((W * H).toNat ≤ 4096) := Lib.hid (by omega)
  have HT6 := Lib.hid t6
  clear t1 t2 t3 t4 t5 t6 hwh
  have HOK : Hid (∀ k (hk : k < es.length), M.okS W H G P es[k].s = true) := Lib.hid (fun k hk => by
    have := hok.2.2.2 k (by rw [List.length_map]; exact hk)
    rwa [List.getElem_map] at this)
  have HRI : Hid (M.rising (es.map (·.s))) := Lib.hid (M.rising_of hok.2.2.1)
  have kI := in16_ok LA lc es b V ((hL.below hB).more hB.size) (by omega) hb
  have HTS : Hid ((es.map (SE.inB b)).map (·.s) = (es.map (·.s)).map (M.inB b)) := Lib.hid (by rw [List.map_map, List.map_map]; rfl)
  have htl : (es.map (SE.inB b)).length = es.length := by rw [List.length_map]
  have HTO : Hid (∀ k (hk : k < (es.map (SE.inB b)).length), M.okS W H G P (es.map (SE.inB b))[k].s = true) := Lib.hid (fun k hk => by
    rw [List.getElem_map]; exact M.inB_ok hb (HOK.out k (by rw [List.length_map] at hk; exact hk)))
  have HPT : Hid (Pats w (es.map (SE.inB b))) := Lib.hid (fun e he => by
    obtain ⟨e', he', rfl⟩ := List.mem_map.1 he
    exact hP e' he')
  generalize es.map (SE.inB b) = ts at *
  have hn4 : ts.length ≤ 4 := by omega
  have HRS : Hid ((ts.map (·.s)).Pairwise fun s t => s.id < t.id) := Lib.hid (by rw [HTS.out]; exact M.rising_in HRI.out)
  have HGE : Hid ((M.gP W H G P b (es.map (·.s)), M.gL W H G P b (es.map (·.s)), M.gC W H G P b (es.map (·.s))) = (M.bP St.id (M.forb W H G P) (M.chLo b) (M.chHi b) (ts.map (·.s)), M.rL St.id (M.forb W H G P) (M.ls0 W H G P) (M.chLo b) (M.chHi b) (ts.map (·.s)), M.bC St.id (M.forb W H G P) (M.ls0 W H G P) (M.chLo b) (M.chHi b) (M.ppl W H G P) (ts.map (·.s)))) := Lib.hid (by unfold M.gP M.gL M.gC; rw [HTS.out])
  have HLS : Hid (∀ k (hk : k < ts.length), (ts.map (·.s)).drop k = ts[k].s :: (ts.map (·.s)).drop (k + 1)) := Lib.hid (fun k hk => by rw [List.drop_eq_getElem_cons (by rw [List.length_map]; exact hk), List.getElem_map])
  have HTK : Hid (∀ k (hk : k < ts.length), (ts.map (·.s)).take (k + 1) = (ts.map (·.s)).take k ++ [ts[k].s]) := Lib.hid (fun k hk => by rw [List.take_succ_eq_append_getElem (by rw [List.length_map]; exact hk), List.getElem_map])
  have HID : Hid (∀ i j (hi : i < ts.length) (hj : j < ts.length), i ≠ j → ts[i].s.id ≠ ts[j].s.id) := Lib.hid (fun i j hi hj hij => by
    have h := List.pairwise_iff_getElem.1 HRS.out
    rcases Nat.lt_or_ge i j with h1 | h1
    · have := h i j (by rw [List.length_map]; exact hi) (by rw [List.length_map]; exact hj) h1
      rw [List.getElem_map, List.getElem_map] at this; omega
    · have := h j i (by rw [List.length_map]; exact hj) (by rw [List.length_map]; exact hi) (by omega)
      rw [List.getElem_map, List.getElem_map] at this; omega)
  have HLN : Hid ((ts.map (·.s)).length = ts.length) := Lib.hid (by rw [List.length_map])
  generalize ts.map (·.s) = ss at *
  clear hok htv htl HTS HRI HOK hL hP
  have hV := HW.out
  go_enter Tryz.func27, Tryz.ntmps27
  go_wp2_with fail
  clear hV
  refine kI.mono ?_
  rintro e w1 ⟨SA, sc, rfl, SS, hb1, fS⟩
  clear kI
  have kL := low16_ok b w1 hb
  go_wp2_with fail
  refine kL.mono ?_
  rintro e w2 ⟨rfl, hb2⟩
  clear kL
  have kH := high16_ok b w2 hb
  go_wp2_with fail
  refine kH.mono ?_
  rintro e w3 ⟨rfl, hb3⟩
  clear kH
  have hbb := after_ hb1 (after_ hb2 hb3)
  have SS3 := (SS.below (after_ hb2 hb3)).more (after_ hb2 hb3).size
  have hBD := M.chBd hb
  generalize M.chLo b = lo at *
  generalize M.chHi b = hh at *
  obtain ⟨base, hbase⟩ : ∃ base, base = w3.heap.size := ⟨_, rfl⟩
  have BW := after_ hB hbb
  replace xk := xk.below hbb
  replace xt := xt.below hbb
  replace xr := xr.below hbb
  have hws : V.heap.size ≤ w3.heap.size := hbb.size
  have bl : BL w3 w3 base (w.heap.size + 1 + 1) [] [] [] (.slice none 0 0) (.slice none 0 0) (.slice none 0 0) := ⟨Below.refl _ _, by omega, by omega, fun _ _ _ => rfl, ⟨xk, own_nil _ _ _ _ _, own_nil _ _ _ _ _, own_nil _ _ _ _ _⟩⟩
  have HTB : Hid (∀ wq, Below (w.heap.size + 1 + 1) w3 wq → TB6 wq w.heap.size W H GA PA gc pc G P) := Lib.hid (fun wq hq => by
    have h2 := BW.trans (hq.mono (by omega))
    exact ⟨xt.belowB hq (by omega), (hg.below h2).more h2.size, (hp.below h2).more h2.size⟩)
  have HPQ : Hid (∀ wq, Below (w.heap.size + 1 + 1) w3 wq → Pats wq ts) := Lib.hid (fun wq hq e he => by
    have h2 := BW.trans (hq.mono (by omega))
    exact ((HPT.out e he).below h2).more h2.size)
  have hne : ∀ ad, SA = some ad → ad.block ≠ w.heap.size + 1 + 1 := fun ad h => by have := fS ad h; omega
  have HSL : Hid (∀ wq : World, (∀ b, b < base → b ≠ w.heap.size + 1 + 1 → wq.heap[b]? = w3.heap[b]?) → Sl 8 secell wq base SA ts) := Lib.hid (fun wq hq k hk => by
    obtain ⟨ad, ha, hlt, hc⟩ := SS3 k hk
    refine ⟨ad, ha, by omega, fun j hj => ?_⟩
    rw [← hc j hj]
    refine World.cell?_of_block (hq _ ?_ ?_)
    · rw [add_block]; omega
    · rw [add_block]; exact hne ad ha)
  clear SS SS3 fS hb1 hb2 hb3 xt xk hbb hbase HPT
  have HBP : Hid ((M.bP St.id (M.forb W H G P) lo hh ss).length ≤ 48) := Lib.hid (Nat.le_trans (M.bP_len ss) (by rw [HLN.out]; exact Nat.mul_le_mul hn4 (show ts.length * 3 ≤ 12 by omega)))
  have HBL : Hid ((M.rL St.id (M.forb W H G P) (M.ls0 W H G P) lo hh ss).length ≤ 16) := Lib.hid (Nat.le_trans (M.rL_len ss) (by rw [HLN.out]; exact Nat.mul_le_mul hn4 hn4))
  have HQB : Hid (∀ k (hk : k < ts.length), 0 ≤ M.total P (M.area W H G ts[k].s) ∧ M.total P (M.area W H G ts[k].s) ≤ 100000000000) := Lib.hid (fun k hk => M.totl_bd HT6.out (Nat.le_trans M.area_len (Nat.le_trans HWH.out (by decide))))
  go_wp2_with fail
  go_loopw [11, 12, 13, 14, 15] (fun si _ _ _ _ wq => ∃ (m : Nat) (o1 o2 : List P5) (o3 : List P4) (v1 v2 v3 : Value), m ≤ ts.length ∧ si = .int .i64 m ∧ BL w3 wq base (w.heap.size + 1 + 1) o1 o2 o3 v1 v2 v3 ∧ o3.length ≤ m ∧ Hid (o1 ++ M.bP St.id (M.forb W H G P) lo hh (ss.drop m) = M.bP St.id (M.forb W H G P) lo hh ss) ∧ Hid (o2 ++ (ss.drop m).flatMap (M.rowL St.id (M.forb W H G P) (M.ls0 W H G P) lo hh ss) = M.rL St.id (M.forb W H G P) (M.ls0 W H G P) lo hh ss) ∧ Hid (o3 ++ (ss.drop m).flatMap (M.cap1 St.id (M.forb W H G P) (M.ls0 W H G P) lo hh (M.ppl W H G P) ss) = M.bC St.id (M.forb W H G P) (M.ls0 W H G P) lo hh (M.ppl W H G P) ss)) (fun si _ _ _ _ _ => ts.length - (intOf si).toNat)
  case atStart => exact ⟨0, [], [], [], _, _, _, Nat.zero_le _, rfl, bl, Nat.zero_le _, Lib.hid rfl, Lib.hid rfl, Lib.hid rfl⟩
  case round =>
    clear bl
    obtain ⟨m, o1, o2, o3, v1, v2, v3, hm, rfl, bl, hol3, H1, H2, H3⟩ := hrel
    by_cases hlt : m < ts.length
    case pos =>
      have HD := HLS.out m hlt
      have K1 : Hid (o1 ++ ((ss.drop (max 0 (m + 1))).flatMap (M.bpT St.id (M.forb W H G P) lo hh ts[m].s) ++ M.bP St.id (M.forb W H G P) lo hh (ss.drop (m + 1))) = M.bP St.id (M.forb W H G P) lo hh ss) := Lib.hid (by rw [show max 0 (m + 1) = m + 1 by omega, ← H1.out, HD, M.bP])
      have K2 : Hid (o2 ++ ((ss.drop 0).flatMap (M.ldN St.id (M.forb W H G P) (M.ls0 W H G P) lo hh ts[m].s) ++ (ss.drop (m + 1)).flatMap (M.rowL St.id (M.forb W H G P) (M.ls0 W H G P) lo hh ss)) = M.rL St.id (M.forb W H G P) (M.ls0 W H G P) lo hh ss) := Lib.hid (by rw [← H2.out, HD, List.flatMap_cons]; rfl)
      have K3Y : Hid (M.rowL St.id (M.forb W H G P) (M.ls0 W H G P) lo hh ss ts[m].s ≠ [] → (o3 ++ [⟨ts[m].s.id, 10 * M.total P (M.area W H G ts[m].s) / 1000, lo, hh⟩]) ++ (ss.drop (m + 1)).flatMap (M.cap1 St.id (M.forb W H G P) (M.ls0 W H G P) lo hh (M.ppl W H G P) ss) = M.bC St.id (M.forb W H G P) (M.ls0 W H G P) lo hh (M.ppl W H G P) ss) := Lib.hid (fun h => by rw [← H3.out, HD, List.flatMap_cons, M.cap1, if_neg h]; simp [M.ppl])
      have K3N : Hid (¬ M.rowL St.id (M.forb W H G P) (M.ls0 W H G P) lo hh ss ts[m].s ≠ [] → o3 ++ (ss.drop (m + 1)).flatMap (M.cap1 St.id (M.forb W H G P) (M.ls0 W H G P) lo hh (M.ppl W H G P) ss) = M.bC St.id (M.forb W H G P) (M.ls0 W H G P) lo hh (M.ppl W H G P) ss) := Lib.hid (fun h => by rw [← H3.out, HD, List.flatMap_cons, M.cap1, if_pos (Classical.not_not.1 h)]; rfl)
      clear HD H1 H2 H3
      have q0 : decide ((m : Int) < (ts.length : Int)) = true := decide_eq_true (by omega)
      go_wp2_with fail
      clear q0
      go_loopw [12, 13, 14, 15] (fun sl sk _ _ wq => ∃ (c : Nat) (o1 o2 : List P5) (v1 v2 : Value) (l : Bool), c ≤ ts.length ∧ sk = .int .i64 c ∧ sl = .bool l ∧ BL w3 wq base (w.heap.size + 1 + 1) o1 o2 o3 v1 v2 v3 ∧ Hid (l = decide ((ss.take c).flatMap (M.ldN St.id (M.forb W H G P) (M.ls0 W H G P) lo hh ts[m].s) ≠ [])) ∧ Hid (o1 ++ ((ss.drop (max c (m + 1))).flatMap (M.bpT St.id (M.forb W H G P) lo hh ts[m].s) ++ M.bP St.id (M.forb W H G P) lo hh (ss.drop (m + 1))) = M.bP St.id (M.forb W H G P) lo hh ss) ∧ Hid (o2 ++ ((ss.drop c).flatMap (M.ldN St.id (M.forb W H G P) (M.ls0 W H G P) lo hh ts[m].s) ++ (ss.drop (m + 1)).flatMap (M.rowL St.id (M.forb W H G P) (M.ls0 W H G P) lo hh ss)) = M.rL St.id (M.forb W H G P) (M.ls0 W H G P) lo hh ss)) (fun _ sk _ _ _ => ts.length - (intOf sk).toNat)
      case atStart => exact ⟨0, o1, o2, _, _, false, Nat.zero_le _, rfl, rfl, bl, Lib.hid (by simp), K1, K2⟩
      case round =>
        clear bl K1 K2
        obtain ⟨c, o1, o2, v1, v2, l, hc, rfl, rfl, bl, HL, H1, H2⟩ := hrel
        by_cases hlc : c < ts.length
        case pos =>
          have q0 : decide ((c : Int) < (ts.length : Int)) = true := decide_eq_true (by omega)
          have HD := HLS.out c hlc
          have HK := HTK.out c hlc
          obtain ⟨X1, HX1⟩ : ∃ X, Hid ((ss.drop (max (c + 1) (m + 1))).flatMap (M.bpT St.id (M.forb W H G P) lo hh ts[m].s) ++ M.bP St.id (M.forb W H G P) lo hh (ss.drop (m + 1)) = X) := ⟨_, Lib.hid rfl⟩
          have K1 : Hid (o1 ++ ((if m < c then M.bpF St.id (M.forb W H G P) lo hh ts[m].s ts[c].s (-1) else []) ++ X1) = M.bP St.id (M.forb W H G P) lo hh ss) := Lib.hid (by
            rw [← HX1.out, ← H1.out]
            by_cases h : m < c
            · rw [if_pos h, M.bpF_start, show max c (m + 1) = c by omega, HD, List.flatMap_cons, show max (c + 1) (m + 1) = c + 1 by omega, List.append_assoc]
            · rw [if_neg h, show max c (m + 1) = m + 1 by omega, show max (c + 1) (m + 1) = m + 1 by omega, List.nil_append])
          have K2 : Hid (o2 ++ (M.ldN St.id (M.forb W H G P) (M.ls0 W H G P) lo hh ts[m].s ts[c].s ++ ((ss.drop (c + 1)).flatMap (M.ldN St.id (M.forb W H G P) (M.ls0 W H G P) lo hh ts[m].s) ++ (ss.drop (m + 1)).flatMap (M.rowL St.id (M.forb W H G P) (M.ls0 W H G P) lo hh ss))) = M.rL St.id (M.forb W H G P) (M.ls0 W H G P) lo hh ss) := Lib.hid (by rw [← H2.out, HD, List.flatMap_cons, List.append_assoc])
          have HLY : Hid (M.ldN St.id (M.forb W H G P) (M.ls0 W H G P) lo hh ts[m].s ts[c].s ≠ [] → true = decide ((ss.take (c + 1)).flatMap (M.ldN St.id (M.forb W H G P) (M.ls0 W H G P) lo hh ts[m].s) ≠ [])) := Lib.hid (fun h => by
            rw [HK, List.flatMap_append]; symm; rw [decide_eq_true_eq]; intro h2; exact h (by have := (List.append_eq_nil_iff.1 h2).2; simpa using this))
          have HLX : Hid (M.ldN St.id (M.forb W H G P) (M.ls0 W H G P) lo hh ts[m].s ts[c].s = [] → l = decide ((ss.take (c + 1)).flatMap (M.ldN St.id (M.forb W H G P) (M.ls0 W H G P) lo hh ts[m].s) ≠ [])) := Lib.hid (fun h => by rw [HK, List.flatMap_append, HL.out, List.flatMap_singleton, h, List.append_nil])
          clear HD HK H1 H2 HL
          go_wp2_with fail
          clear q0
          go_loopw [14] (fun so wq => ∃ (o : Int) (o1 : List P5) (v1 : Value), -1 ≤ o ∧ o ≤ 2 ∧ so = .int .i64 o ∧ BL w3 wq base (w.heap.size + 1 + 1) o1 o2 o3 v1 v2 v3 ∧ Hid (o1 ++ ((if m < c then M.bpF St.id (M.forb W H G P) lo hh ts[m].s ts[c].s o else []) ++ X1) = M.bP St.id (M.forb W H G P) lo hh ss)) (fun so _ => (2 - intOf so).toNat)
          case atStart => exact ⟨-1, o1, _, by omega, by omega, rfl, bl, K1⟩
          case round =>
            clear bl K1
            obtain ⟨o, o1, v1, ho1, ho2, rfl, bl, H1⟩ := hrel
            by_cases hgo : o ≤ 1 ∧ m < c
            case pos =>
              obtain ⟨hg1, hg2⟩ := hgo
              have q0 : decide (o ≤ 1) = true := decide_eq_true hg1
              have q1 : decide ((m : Int) < (c : Int)) = true := decide_eq_true (by omega)
              have HN : Hid (o1 ++ (M.bpO St.id (M.forb W H G P) lo hh ts[m].s ts[c].s o ++ (M.bpF St.id (M.forb W H G P) lo hh ts[m].s ts[c].s (o + 1) ++ X1)) = M.bP St.id (M.forb W H G P) lo hh ss) := Lib.hid (by rw [← H1.out, if_pos hg2, M.bpF_step _ _ _ _ _ _ ho1 hg1, List.append_assoc])
              clear H1
              go_wp2_with fail
              clear q0 q1
              refine b16_f W H GA PA gc pc G P SA sc ts lo hh wr w.heap.size (w.heap.size + 1 + 1) m c (HTB.out _ bl.below) ((HSL.out _ bl.keep).more bl.hs) (HPQ.out _ bl.below) HTO.out hlt hlc o ⟨ho1, hg1⟩ (by kernel_rfl) ?_
              rintro z44 z45 z46 z47 z48 z49 z50 z51 z52 z53 w5 r hfr hb5
              replace bl := bl.next hb5
              clear hb5
              cases r
              case false =>
                have HE : Hid (o1 ++ ((if m < c then M.bpF St.id (M.forb W H G P) lo hh ts[m].s ts[c].s (o + 1) else []) ++ X1) = M.bP St.id (M.forb W H G P) lo hh ss) := Lib.hid (by rw [← HN.out, if_pos hg2, M.bpO, if_neg (by rw [← hfr]; decide)]; rfl)
                clear HN hfr
                go_wp2_with fail
                go_roundw
                case rel => exact ⟨o + 1, o1, _, by omega, by omega, by go_num, bl, HE⟩
                case measure => simp [intOf]; omega
              case true =>
                have HE : Hid ((o1 ++ [⟨ts[m].s.id, ts[c].s.id, o, max lo (lo - o), min hh (hh - o)⟩]) ++ ((if m < c then M.bpF St.id (M.forb W H G P) lo hh ts[m].s ts[c].s (o + 1) else []) ++ X1) = M.bP St.id (M.forb W H G P) lo hh ss) := Lib.hid (by rw [← HN.out, M.bpO, if_pos hfr.symm, if_pos hg2, List.append_assoc])
                have hol : o1.length ≤ 15000 := by have h1 := HBP.out; have h2 := congrArg List.length HE.out; simp only [List.length_append] at h2; omega
                clear HN hfr
                go_wp2_with fail
                refine b16_pr SA sc ts lo hh w5 (w.heap.size + 1 + 1) m c o (lo - o) (hh - o) _ _ (wrap_small (by omega) (by omega)) (wrap_small (by omega) (by omega)) rfl rfl w3 base v1 v2 v3 o1 o2 o3 bl.rc bl.hbr bl.below bl.hs (HSL.out _ bl.keep) hne hlt hlc hol (by kernel_rfl) ?_
                rintro z55 z56 z57 z58 z59 z60 z61 z62 z63 z64 z65 z66 z67 z68 z69 z70 z71 z72 z73 z74 z75 z76 z77 z78 z79 z80 z81 w6 v' rc6 hB6 hs6 hk6
                replace bl := bl.upd rc6 hB6 hs6 hk6
                clear rc6 hB6 hs6 hk6
                go_wp2_with fail
                go_roundw
                case rel => exact ⟨o + 1, _, _, by omega, by omega, by go_num, bl, HE⟩
                case measure => simp [intOf]; omega
            case neg =>
              have HE : Hid (o1 ++ X1 = M.bP St.id (M.forb W H G P) lo hh ss) := Lib.hid (by
                rw [← H1.out]
                by_cases h : m < c
                · rw [if_pos h, show o = 2 by omega, M.bpF_end]; rfl
                · rw [if_neg h]; rfl)
              clear H1
              by_cases hg1 : o ≤ 1
              case pos =>
                have q0 : decide (o ≤ 1) = true := decide_eq_true hg1
                have q1 : decide ((m : Int) < (c : Int)) = false := decide_eq_false (fun h => hgo ⟨hg1, by omega⟩)
                go_wp2_with fail
                clear q0 q1
                have HE1 : Hid (o1 ++ ((ss.drop (max (c + 1) (m + 1))).flatMap (M.bpT St.id (M.forb W H G P) lo hh ts[m].s) ++ M.bP St.id (M.forb W H G P) lo hh (ss.drop (m + 1))) = M.bP St.id (M.forb W H G P) lo hh ss) := Lib.hid (by rw [HX1.out]; exact HE.out)
                clear HE HX1 hgo
                refine b16_n W H GA PA gc pc G P SA sc ts lo hh wr w.heap.size (w.heap.size + 1 + 1) m c (HTB.out _ bl.below) ((HSL.out _ bl.keep).more bl.hs) (HPQ.out _ bl.below) HTO.out hlt hlc (by kernel_rfl) ?_
                rintro z82 z83 z84 z85 z86 z87 z88 z89 z90 z91 z92 z93 z94 z95 z96 w5 r hr hb5
                replace bl := bl.next hb5
                clear hb5
                cases r
                case false =>
                  have HZ : M.ldN St.id (M.forb W H G P) (M.ls0 W H G P) lo hh ts[m].s ts[c].s = [] := by
                    unfold M.ldN M.ld1
                    by_cases h : m = c
                    · subst h; rw [if_pos rfl]
                    · have h2 : M.forb W H G P ts[m].s ts[c].s 0 = true := by simpa [h] using hr.symm
                      rw [h2]; simp
                  have HE2 : Hid (o2 ++ ((ss.drop (c + 1)).flatMap (M.ldN St.id (M.forb W H G P) (M.ls0 W H G P) lo hh ts[m].s) ++ (ss.drop (m + 1)).flatMap (M.rowL St.id (M.forb W H G P) (M.ls0 W H G P) lo hh ss)) = M.rL St.id (M.forb W H G P) (M.ls0 W H G P) lo hh ss) := Lib.hid (by rw [← K2.out, HZ]; rfl)
                  have HE3 := Lib.hid (HLX.out HZ)
                  clear HZ K2 hr
                  go_wp2_with fail
                  go_roundw
                  case rel => exact ⟨c + 1, o1, o2, _, _, l, hlc, by go_num, rfl, bl, HE3, HE1, HE2⟩
                  case measure => simp [intOf]; omega
                case true =>
                  have HR : Hid (m ≠ c ∧ M.forb W H G P ts[m].s ts[c].s 0 = false) := Lib.hid (by simpa using hr.symm)
                  clear hr
                  go_wp2_with fail
                  refine b16_l W H GA PA gc pc G P SA sc ts lo hh w5 w.heap.size (w.heap.size + 1 + 1) m c (HTB.out _ bl.below) ((HSL.out _ bl.keep).more bl.hs) (HPQ.out _ bl.below) HTO.out hlt hlc (by kernel_rfl) ?_
                  rintro z98 z99 z100 z101 z102 z103 z104 z105 z106 w6 z hz hb6
                  replace bl := bl.next hb6
                  clear hb6
                  have HLD : Hid (M.ldN St.id (M.forb W H G P) (M.ls0 W H G P) lo hh ts[m].s ts[c].s = if 0 < z then [⟨ts[m].s.id, ts[c].s.id, z, lo, hh⟩] else []) := Lib.hid (by
                    unfold M.ldN M.ld1
                    rw [if_neg (HID.out m c hlt hlc HR.out.1), if_neg (by rw [HR.out.2]; decide), hz])
                  clear hz HR
                  by_cases hz0 : 0 < z
                  case neg =>
                    have q0 : decide (0 < z) = false := decide_eq_false hz0
                    have HZ : M.ldN St.id (M.forb W H G P) (M.ls0 W H G P) lo hh ts[m].s ts[c].s = [] := by rw [HLD.out, if_neg hz0]
                    have HE2 : Hid (o2 ++ ((ss.drop (c + 1)).flatMap (M.ldN St.id (M.forb W H G P) (M.ls0 W H G P) lo hh ts[m].s) ++ (ss.drop (m + 1)).flatMap (M.rowL St.id (M.forb W H G P) (M.ls0 W H G P) lo hh ss)) = M.rL St.id (M.forb W H G P) (M.ls0 W H G P) lo hh ss) := Lib.hid (by rw [← K2.out, HZ]; rfl)
                    have HE3 := Lib.hid (HLX.out HZ)
                    clear HZ K2 HLD
                    go_wp2_with fail
                    go_roundw
                    case rel => exact ⟨c + 1, o1, o2, _, _, l, hlc, by go_num, rfl, bl, HE3, HE1, HE2⟩
                    case measure => simp [intOf]; omega
                  case pos =>
                    have q0 : decide (0 < z) = true := decide_eq_true hz0
                    have HZ : M.ldN St.id (M.forb W H G P) (M.ls0 W H G P) lo hh ts[m].s ts[c].s = [⟨ts[m].s.id, ts[c].s.id, z, lo, hh⟩] := by rw [HLD.out, if_pos hz0]
                    have HE2 : Hid ((o2 ++ [⟨ts[m].s.id, ts[c].s.id, z, lo, hh⟩]) ++ ((ss.drop (c + 1)).flatMap (M.ldN St.id (M.forb W H G P) (M.ls0 W H G P) lo hh ts[m].s) ++ (ss.drop (m + 1)).flatMap (M.rowL St.id (M.forb W H G P) (M.ls0 W H G P) lo hh ss)) = M.rL St.id (M.forb W H G P) (M.ls0 W H G P) lo hh ss) := Lib.hid (by rw [← K2.out, HZ, List.append_assoc])
                    have HE3 := Lib.hid (HLY.out (by rw [HZ]; simp))
                    have hol : o2.length ≤ 15000 := by have h1 := HBL.out; have h2 := congrArg List.length HE2.out; simp only [List.length_append] at h2; omega
                    clear HZ K2 HLD
                    go_wp2_with fail
                    refine b16_ld SA sc ts lo hh w6 (w.heap.size + 1 + 1) m c z w3 base v1 v2 v3 o1 o2 o3 bl.rc bl.hbr bl.below bl.hs (HSL.out _ bl.keep) hne hlt hlc hol (by kernel_rfl) ?_
                    rintro z110 z111 z112 z113 z114 z115 z116 z117 z118 z119 z120 z121 z122 z123 z124 z125 z126 z127 z128 w7 v' rc6 hB6 hs6 hk6
                    replace bl := bl.upd rc6 hB6 hs6 hk6
                    clear rc6 hB6 hs6 hk6 q0
                    go_wp2_with fail
                    go_roundw
                    case rel => exact ⟨c + 1, o1, _, _, _, true, hlc, by go_num, rfl, bl, HE3, HE1, HE2⟩
                    case measure => simp [intOf]; omega
              case neg =>
                have q0 : decide (o ≤ 1) = false := decide_eq_false hg1
                go_wp2_with fail
                clear q0
                have HE1 : Hid (o1 ++ ((ss.drop (max (c + 1) (m + 1))).flatMap (M.bpT St.id (M.forb W H G P) lo hh ts[m].s) ++ M.bP St.id (M.forb W H G P) lo hh (ss.drop (m + 1))) = M.bP St.id (M.forb W H G P) lo hh ss) := Lib.hid (by rw [HX1.out]; exact HE.out)
                clear HE HX1 hgo
                refine b16_n W H GA PA gc pc G P SA sc ts lo hh wr w.heap.size (w.heap.size + 1 + 1) m c (HTB.out _ bl.below) ((HSL.out _ bl.keep).more bl.hs) (HPQ.out _ bl.below) HTO.out hlt hlc (by kernel_rfl) ?_
                rintro z82 z83 z84 z85 z86 z87 z88 z89 z90 z91 z92 z93 z94 z95 z96 w5 r hr hb5
                replace bl := bl.next hb5
                clear hb5
                cases r
                case false =>
                  have HZ : M.ldN St.id (M.forb W H G P) (M.ls0 W H G P) lo hh ts[m].s ts[c].s = [] := by
                    unfold M.ldN M.ld1
                    by_cases h : m = c
                    · subst h; rw [if_pos rfl]
                    · have h2 : M.forb W H G P ts[m].s ts[c].s 0 = true := by simpa [h] using hr.symm
                      rw [h2]; simp
                  have HE2 : Hid (o2 ++ ((ss.drop (c + 1)).flatMap (M.ldN St.id (M.forb W H G P) (M.ls0 W H G P) lo hh ts[m].s) ++ (ss.drop (m + 1)).flatMap (M.rowL St.id (M.forb W H G P) (M.ls0 W H G P) lo hh ss)) = M.rL St.id (M.forb W H G P) (M.ls0 W H G P) lo hh ss) := Lib.hid (by rw [← K2.out, HZ]; rfl)
                  have HE3 := Lib.hid (HLX.out HZ)
                  clear HZ K2 hr
                  go_wp2_with fail
                  go_roundw
                  case rel => exact ⟨c + 1, o1, o2, _, _, l, hlc, by go_num, rfl, bl, HE3, HE1, HE2⟩
                  case measure => simp [intOf]; omega
                case true =>
                  have HR : Hid (m ≠ c ∧ M.forb W H G P ts[m].s ts[c].s 0 = false) := Lib.hid (by simpa using hr.symm)
                  clear hr
                  go_wp2_with fail
                  refine b16_l W H GA PA gc pc G P SA sc ts lo hh w5 w.heap.size (w.heap.size + 1 + 1) m c (HTB.out _ bl.below) ((HSL.out _ bl.keep).more bl.hs) (HPQ.out _ bl.below) HTO.out hlt hlc (by kernel_rfl) ?_
                  rintro z98 z99 z100 z101 z102 z103 z104 z105 z106 w6 z hz hb6
                  replace bl := bl.next hb6
                  clear hb6
                  have HLD : Hid (M.ldN St.id (M.forb W H G P) (M.ls0 W H G P) lo hh ts[m].s ts[c].s = if 0 < z then [⟨ts[m].s.id, ts[c].s.id, z, lo, hh⟩] else []) := Lib.hid (by
                    unfold M.ldN M.ld1
                    rw [if_neg (HID.out m c hlt hlc HR.out.1), if_neg (by rw [HR.out.2]; decide), hz])
                  clear hz HR
                  by_cases hz0 : 0 < z
                  case neg =>
                    have q0 : decide (0 < z) = false := decide_eq_false hz0
                    have HZ : M.ldN St.id (M.forb W H G P) (M.ls0 W H G P) lo hh ts[m].s ts[c].s = [] := by rw [HLD.out, if_neg hz0]
                    have HE2 : Hid (o2 ++ ((ss.drop (c + 1)).flatMap (M.ldN St.id (M.forb W H G P) (M.ls0 W H G P) lo hh ts[m].s) ++ (ss.drop (m + 1)).flatMap (M.rowL St.id (M.forb W H G P) (M.ls0 W H G P) lo hh ss)) = M.rL St.id (M.forb W H G P) (M.ls0 W H G P) lo hh ss) := Lib.hid (by rw [← K2.out, HZ]; rfl)
                    have HE3 := Lib.hid (HLX.out HZ)
                    clear HZ K2 HLD
                    go_wp2_with fail
                    go_roundw
                    case rel => exact ⟨c + 1, o1, o2, _, _, l, hlc, by go_num, rfl, bl, HE3, HE1, HE2⟩
                    case measure => simp [intOf]; omega
                  case pos =>
                    have q0 : decide (0 < z) = true := decide_eq_true hz0
                    have HZ : M.ldN St.id (M.forb W H G P) (M.ls0 W H G P) lo hh ts[m].s ts[c].s = [⟨ts[m].s.id, ts[c].s.id, z, lo, hh⟩] := by rw [HLD.out, if_pos hz0]
                    have HE2 : Hid ((o2 ++ [⟨ts[m].s.id, ts[c].s.id, z, lo, hh⟩]) ++ ((ss.drop (c + 1)).flatMap (M.ldN St.id (M.forb W H G P) (M.ls0 W H G P) lo hh ts[m].s) ++ (ss.drop (m + 1)).flatMap (M.rowL St.id (M.forb W H G P) (M.ls0 W H G P) lo hh ss)) = M.rL St.id (M.forb W H G P) (M.ls0 W H G P) lo hh ss) := Lib.hid (by rw [← K2.out, HZ, List.append_assoc])
                    have HE3 := Lib.hid (HLY.out (by rw [HZ]; simp))
                    have hol : o2.length ≤ 15000 := by have h1 := HBL.out; have h2 := congrArg List.length HE2.out; simp only [List.length_append] at h2; omega
                    clear HZ K2 HLD
                    go_wp2_with fail
                    refine b16_ld SA sc ts lo hh w6 (w.heap.size + 1 + 1) m c z w3 base v1 v2 v3 o1 o2 o3 bl.rc bl.hbr bl.below bl.hs (HSL.out _ bl.keep) hne hlt hlc hol (by kernel_rfl) ?_
                    rintro z110 z111 z112 z113 z114 z115 z116 z117 z118 z119 z120 z121 z122 z123 z124 z125 z126 z127 z128 w7 v' rc6 hB6 hs6 hk6
                    replace bl := bl.upd rc6 hB6 hs6 hk6
                    clear rc6 hB6 hs6 hk6 q0
                    go_wp2_with fail
                    go_roundw
                    case rel => exact ⟨c + 1, o1, _, _, _, true, hlc, by go_num, rfl, bl, HE3, HE1, HE2⟩
                    case measure => simp [intOf]; omega
        case neg =>
          obtain rfl : c = ts.length := by omega
          have q0 : decide ((ts.length : Int) < (ts.length : Int)) = false := decide_eq_false (by omega)
          have HE1 : Hid (o1 ++ M.bP St.id (M.forb W H G P) lo hh (ss.drop (m + 1)) = M.bP St.id (M.forb W H G P) lo hh ss) := Lib.hid (by have := H1.out; rwa [show max ts.length (m + 1) = ts.length by omega, List.drop_eq_nil_of_le (by rw [HLN.out]; exact Nat.le_refl _), List.flatMap_nil, List.nil_append] at this)
          have HE2 : Hid (o2 ++ (ss.drop (m + 1)).flatMap (M.rowL St.id (M.forb W H G P) (M.ls0 W H G P) lo hh ss) = M.rL St.id (M.forb W H G P) (M.ls0 W H G P) lo hh ss) := Lib.hid (by have := H2.out; rwa [List.drop_eq_nil_of_le (by rw [HLN.out]; exact Nat.le_refl _), List.flatMap_nil, List.nil_append] at this)
          have HE3 : Hid (l = decide (M.rowL St.id (M.forb W H G P) (M.ls0 W H G P) lo hh ss ts[m].s ≠ [])) := Lib.hid (by have := HL.out; rwa [List.take_of_length_le (by rw [HLN.out]; exact Nat.le_refl _)] at this)
          clear H1 H2 HL
          cases l
          case false =>
            have HC := Lib.hid (K3N.out (fun h => by have := HE3.out; rw [decide_eq_true h] at this; cases this))
            clear K3N K3Y HE3
            go_wp2_with fail
            go_roundw
            case rel => exact ⟨m + 1, o1, o2, o3, _, _, _, hlt, by go_num, bl, by omega, HE1, HE2, HC⟩
            case measure => simp [intOf]; omega
          case true =>
            have HC := Lib.hid (K3Y.out (of_decide_eq_true HE3.out.symm))
            clear K3N K3Y HE3
            obtain ⟨hq1, hq2⟩ := HQB.out m hlt
            obtain ⟨pl, hpl⟩ : ∃ pl, M.total P (M.area W H G ts[m].s) = pl := ⟨_, rfl⟩
            rw [hpl] at HC hq1 hq2
            have HPL := Lib.hid hpl
            clear hpl
            go_wp2_with fail
            refine b16_cp W H GA PA gc pc G P SA sc ts lo hh (10 * pl) (10 * pl / 1000) wr w.heap.size (w.heap.size + 1 + 1) m (HTB.out _ bl.below) (HPQ.out _ bl.below) HTO.out w3 base v1 v2 v3 o1 o2 o3 bl.rc bl.hbr bl.below bl.hs (HSL.out _ bl.keep) hne hlt pl HPL.out (wrap_small (by omega) (by omega)) (by rw [Int.tdiv_eq_ediv_of_nonneg (by omega)]; exact wrap_small (by omega) (by omega)) (by omega) (by kernel_rfl) ?_
            rintro z130 z131 z132 z133 z134 z135 z136 z137 z138 z139 z140 z141 z142 z143 z144 z145 z146 z147 z148 z149 z150 w6 v' rc6 hB6 hs6 hk6
            replace bl := bl.upd rc6 hB6 hs6 hk6
            clear rc6 hB6 hs6 hk6 q0 hq1 hq2
            go_wp2_with fail
            go_roundw
            case rel => exact ⟨m + 1, o1, o2, _, _, _, _, hlt, by go_num, bl, by rw [List.length_append, List.length_singleton]; omega, HE1, HE2, HC⟩
            case measure => simp [intOf]; omega
    case neg =>
      obtain rfl : m = ts.length := by omega
      have q0 : decide ((ts.length : Int) < (ts.length : Int)) = false := decide_eq_false (by omega)
      have E1 : Hid (o1 = M.bP St.id (M.forb W H G P) lo hh ss) := Lib.hid (by have := H1.out; rwa [List.drop_eq_nil_of_le (by rw [HLN.out]; exact Nat.le_refl _), M.bP, List.append_nil] at this)
      have E2 : Hid (o2 = M.rL St.id (M.forb W H G P) (M.ls0 W H G P) lo hh ss) := Lib.hid (by have := H2.out; rwa [List.drop_eq_nil_of_le (by rw [HLN.out]; exact Nat.le_refl _), List.flatMap_nil, List.append_nil] at this)
      have E3 : Hid (o3 = M.bC St.id (M.forb W H G P) (M.ls0 W H G P) lo hh (M.ppl W H G P) ss) := Lib.hid (by have := H3.out; rwa [List.drop_eq_nil_of_le (by rw [HLN.out]; exact Nat.le_refl _), List.flatMap_nil, List.append_nil] at this)
      clear H1 H2 H3
      have rc := bl.rc
      have B8 := BW.trans (bl.below.mono (by omega))
      have hs8 := bl.hs
      have hb8 := bl.hbr
      have xr8 := xr.belowB bl.below (by omega)
      clear bl
      obtain ⟨A1, d1, rfl, hc1, -⟩ := own_sliceC (by decide) rc.p
      obtain ⟨A2, d2, rfl, hc2, -⟩ := own_sliceC (by decide) rc.l
      obtain ⟨A3, d3, rfl, hc3, -⟩ := own_sliceC (by decide) rc.c
      obtain ⟨r0, r1, r2⟩ := xr8.c3
      obtain ⟨y0, y1, y2⟩ := rc.box.c3
      have f0 := xr8.frozen 0
      have f1 := xr8.frozen 1
      have f2 := xr8.frozen 2
      go_wp2_with fail
      obtain ⟨z0, z1, z2⟩ := (xr8.set3 (u := .slice A1 o1.length d1) (v := .slice A2 o2.length d2) (t := .slice A3 o3.length d3)).c3
      have ro : Ro3 wr base (.slice A1 o1.length d1) (.slice A2 o2.length d2) (.slice A3 o3.length d3) (o1, o2, o3) := ⟨rc.p, rc.l, rc.c⟩
      have ro2 := ro.set3 (u := .slice A1 o1.length d1) (v := .slice A2 o2.length d2) (t := .slice A3 o3.length d3) xr8
      obtain ⟨A1', d1', A2', d2', A3', d3', e1, e2, e3, rw2, -⟩ := ro2.out
      cases e1; cases e2; cases e3
      refine bodyPost_ret (v := ruv A1 o1.length d1 A2 o2.length d2 A3 o3.length d3) ?_ rfl (RetR1.eq (r := (o1, o2, o3)) ⟨A1, d1, A2, d2, A3, d3, rfl, rw2, ⟨hc1, hc2, hc3⟩, below_set3 B8 (by omega)⟩ (by rw [HGE.out, ← E1.out, ← E2.out, ← E3.out]))
      simp [results, Tryz.results27, go_sem, z0, z1, z2]
end Go.Proofs.YtciolgmljpamlaaGreatDoor
end
