/- A bundle of texts: Ld2, LdFu, LdEd0, LdEd1. -/
import Derived.Test.YtceobfigfmnacaaDoorE25
import Derived.Test.YtceobfigfmnacaaDoorE22
import Derived.Test.YtceobfigfmnacaaDoorE01
import Derived.Test.YtceobfigfmnacaaDoorE15
section
namespace Go.Proofs.YtceobfigfmnacaaDoor
open Go Go.RowKit
set_option maxRecDepth 100000
namespace M
theorem err_ok {ps : List P5} {l : List Mv} {a : Int} (h : errIs ps l a) (hp : ps.length ≤ 20000) (hok : mvsOk l) : a = 0 := by
  rcases h with ⟨-, -, h⟩ | ⟨-, h2, -⟩ | ⟨h1, -⟩
  · exact h
  · omega
  · exact absurd hok h1
theorem err_no {ps : List P5} {l : List Mv} {a : Int} (h : errIs ps l a) (hno : ¬ mvsOk l) : a = 2 := by
  rcases h with ⟨h1, -⟩ | ⟨h1, -⟩ | ⟨-, h⟩
  · exact absurd h1 hno
  · exact absurd h1 hno
  · exact h
end M
section
variable {w W : World} {PA LA : Option Addr} {ps : List P5} {l : List Mv}
theorem LW.groups (h : LW w W PA LA ps l) (pc lc : Nat) (hp : ps.length ≤ 20000) (hl : l.length ≤ 512) (hok : M.mvsOk l) : Calls Tryd.prog 15 #[.slice PA ps.length pc, .slice LA l.length lc] W fun e w' => (∃ A c ls, e = .returned (.tuple #[.slice A ls.length c, .int .i64 0]) ∧ LO w' W.heap.size (.slice A ls.length c) ls ∧ ls.map (·.xs) = M.grps ps l) ∧ Below W.heap.size W w' := by
  refine (groups_ok PA pc ps.length ps LA lc l W h.tab rfl h.pairs h.moves (by omega) h.iw).mono ?_
  rintro e w' ⟨⟨er, her, hc⟩, hb⟩
  refine ⟨?_, hb⟩
  rcases hc with ⟨h1, -⟩ | ⟨-, A, c, ls, rfl, hlo, hls⟩
  · exact absurd (M.err_ok her hp hok) h1
  · exact ⟨A, c, ls, rfl, hlo, hls⟩
theorem LW.before (h : LW w W PA LA ps l) (pc lc : Nat) (st : Int) (hst : M.W64 st) (hp : ps.length ≤ 20000) (hl : l.length ≤ 512) (hok : M.mvsOk l) : Calls Tryd.prog 17 #[.slice PA ps.length pc, .slice LA l.length lc, .int .i64 st] W fun e w' => ((M.idx l st = none ∧ e = .returned (.tuple #[.slice none 0 0, .int .i64 9])) ∨ ∃ v A c, M.idx l st = some v ∧ e = .returned (.tuple #[.slice A (M.bef ps l v).length c, .int .i64 0]) ∧ Sl 1 icell w' w'.heap.size A (M.bef ps l v)) ∧ Below W.heap.size W w' := by
  refine (before_ok PA pc ps.length ps LA lc l st W h.tab rfl h.pairs h.moves (by omega) h.iw hst).mono ?_
  rintro e w' ⟨⟨er, her, hc⟩, hb⟩
  refine ⟨?_, hb⟩
  rcases hc with ⟨h1, -⟩ | ⟨-, hc⟩
  · exact absurd (M.err_ok her hp hok) h1
  · exact hc
theorem LW.depth (h : LW w W PA LA ps l) (pc lc : Nat) (hp : ps.length ≤ 20000) (hl : l.length ≤ 512) (hok : M.mvsOk l) : Calls Tryd.prog 19 #[.slice PA ps.length pc, .slice LA l.length lc] W fun e w' => e = .returned (.tuple #[.int .i64 (Dg.depth (M.rows ps l) : Nat), .int .i64 0]) ∧ Below W.heap.size W w' := by
  refine (depth_ok PA pc ps.length ps LA lc l W h.tab rfl h.pairs h.moves (by omega) h.iw).mono ?_
  rintro e w' ⟨⟨er, her, hc⟩, hb⟩
  refine ⟨?_, hb⟩
  rcases hc with ⟨h1, -⟩ | ⟨-, rfl⟩
  · exact absurd (M.err_ok her hp hok) h1
  · rfl
theorem LW.legal (h : LW w W PA LA ps l) (pc lc : Nat) (OA : Option Addr) (oc : Nat) (os : List SLc) (hO : LL W OA os) (hol : os.length ≤ 9223372036854775806) (hoi : ∀ s ∈ os, s.xs.length ≤ 9223372036854775806 ∧ ∀ x ∈ s.xs, M.W64 x) (hp : ps.length ≤ 20000) (hl : l.length ≤ 512) (hok : M.mvsOk l) : Calls Tryd.prog 23 #[.slice PA ps.length pc, .slice LA l.length lc, .slice OA os.length oc] W fun e w' => e = .returned (.int .i64 (M.legal ps l (os.map (·.xs)))) ∧ Below W.heap.size W w' := by
  refine (legal_ok PA pc ps.length ps LA lc l OA oc os W h.tab rfl h.pairs h.moves (by omega) h.iw hO hol hoi).mono ?_
  rintro e w' ⟨⟨er, her, hc⟩, hb⟩
  refine ⟨?_, hb⟩
  rcases hc with ⟨h1, -⟩ | ⟨-, rfl⟩
  · exact absurd (M.err_ok her hp hok) h1
  · rfl
end
end Go.Proofs.YtceobfigfmnacaaDoor
end

section
namespace Go.Proofs.YtceobfigfmnacaaDoor
open Go Go.RowKit
set_option maxRecDepth 100000
end Go.Proofs.YtceobfigfmnacaaDoor
end

section
namespace Go.Proofs.YtceobfigfmnacaaDoor
open Go Go.RowKit
set_option maxRecDepth 100000
namespace M
def edgW (ps : List P5) (l : List Mv) (i k : Nat) : List (Int × Int) := edgT ps l i ++ ((List.range k).filter (dep0 (rows ps l) i)).map fun x => (stv l i, stv l x)
theorem edgW_zero (ps : List P5) (l : List Mv) (i : Nat) : edgW ps l i 0 = edgT ps l i := by simp [edgW]
theorem edgW_no {ps : List P5} {l : List Mv} {i k : Nat} (h : dep0 (rows ps l) i k = false) : edgW ps l i (k + 1) = edgW ps l i k := by
  unfold edgW
  rw [List.range_succ, List.filter_append, List.filter_cons_of_neg (by rw [h]; decide)]
  simp
theorem edgW_yes {ps : List P5} {l : List Mv} {i k : Nat} (h : dep0 (rows ps l) i k = true) : edgW ps l i (k + 1) = edgW ps l i k ++ [(stv l i, stv l k)] := by
  unfold edgW
  rw [List.range_succ, List.filter_append, List.filter_cons_of_pos h]
  simp
theorem edgW_all {ps : List P5} {l : List Mv} (hl : l.length ≤ 512) (i : Nat) : edgW ps l i l.length = edgT ps l (i + 1) := by
  have hR := rows_ok (ps := ps) hl
  rw [edgT_succ]
  unfold edgW
  rw [Bs.els_range (n := l.length) hl (fun j hj => by have := hR.fit _ _ hj; rwa [rows_len] at this)]
  rfl
theorem edgW_len (ps : List P5) (l : List Mv) (i k : Nat) : (edgW ps l i k).length ≤ 512 * i + k := by
  unfold edgW
  rw [List.length_append, List.length_map]
  have h1 := edgT_len ps l i
  have h2 := List.length_filter_le (dep0 (rows ps l) i) (List.range k)
  rw [List.length_range] at h2
  omega
end M
structure DeS (w W : World) (b5 b6 b7 base : Nat) (many : Int) (A : Option Addr) (c : Nat) (es : List (Int × Int)) : Prop where
  bel : Below w.heap.size w W
  x5 : Box W b5 #[.int .i64 many] 3
  x6 : Box W b6 #[.bool false] 4
  x7 : Box W b7 #[.slice A es.length c] 58
  own : W.ownsRow base 60 2 (.slice A es.length c) es.length (flat 2 e2cell es)
section
variable {w W W' : World} {b5 b6 b7 base : Nat} {many : Int} {A : Option Addr} {c : Nat} {es : List (Int × Int)}
theorem DeS.next (h : DeS w W b5 b6 b7 base many A c es) (hb : Below W.heap.size W W') : DeS w W' b5 b6 b7 base many A c es := ⟨after_ h.bel hb, h.x5.below hb, h.x6.below hb, h.x7.below hb, own_below h.own hb⟩
theorem DeS.own' {row : Option Nat} {B : Nat} (h : DeS w W b5 b6 b7 base many A c es) (hB : w.heap.size ≤ B) (hg : W.grownBy W' row) (hr : ∀ r, row = some r → B ≤ r ∧ ∃ o : Obj, W.heap[r]? = some o ∧ o.isCells = false) : DeS w W' b5 b6 b7 base many A c es :=
  ⟨below_own h.bel hB h.bel.size hg hr, h.x5.own hg hr, h.x6.own hg hr, h.x7.own hg hr, row_own h.own hg hr⟩
theorem DeS.far {b : Nat} (h : DeS w W b5 b6 b7 base many A c es) (hg : W.grownBy W' (some b)) (hw : w.heap.size ≤ b) (h5 : b5 ≠ b) (h6 : b6 ≠ b) (h7 : b7 ≠ b) (ho : (Value.slice A es.length c).ownBlock = none ∨ (Value.slice A es.length c).ownBlock ≠ some b) : DeS w W' b5 b6 b7 base many A c es :=
  ⟨h.bel.grown hg h.bel.size (fun k e => by cases e; exact hw), h.x5.grown hg (fun e => h5 (Option.some.inj e)), h.x6.grown hg (fun e => h6 (Option.some.inj e)), h.x7.grown hg (fun e => h7 (Option.some.inj e)), h.own.kept hg ho⟩
theorem DeS.push (h : DeS w W b5 b6 b7 base many A c es) (hs : w.heap.size ≤ b7 ∧ b5 < b6 ∧ b6 < b7 ∧ b7 < base) {A' : Option Addr} {c' : Nat} {p : Int × Int} (hb : Below w.heap.size w W') (ho : W'.ownsRow base 60 2 (.slice A' (es.length + 1) c') (es.length + 1) (flat 2 e2cell (es ++ [p]))) (hg : W.grownBy W' (Value.slice A es.length c).ownBlock) :
    DeS w (W'.setCell ⟨b7, 0, none⟩ (.slice A' (es.length + 1) c')) b5 b6 b7 base many A' c' (es ++ [p]) := by
  refine ⟨hb.setCell (p := ⟨b7, 0, none⟩) hs.1 _, (h.x5.grown hg (h.x5.ne_own (by decide) h.own)).set_other (by dsimp only; omega) _, (h.x6.grown hg (h.x6.ne_own (by decide) h.own)).set_other (by dsimp only; omega) _, ?_, ?_⟩
  · rw [List.length_append]; exact (h.x7.grown hg (h.x7.ne_own (by decide) h.own)).set 0 _
  · rw [List.length_append]
    exact World.ownsRow.kept ho (grown_set W' b7 0 _) (by
      cases hv : (Value.slice A' (es.length + 1) c').ownBlock with
      | none => exact .inl rfl
      | some b => exact .inr (fun e => by have e2 : b = b7 := Option.some.inj e; have := (ho.lt b hv).1; omega))
end
set_option maxHeartbeats 32000000 in
theorem edges_reg11 {Q : Exit → Act → World → Prop} {cd : Code} {dl : List Deferred} {Z0 Z2 Z3 Z4 Z5 Z6 Za Zb Zc Zd Ze Zf Zg Zh Zi Zj Zk Zl Zm Zn Zo Zp Zq Zr Zs Zt Zu Zv Zw Zx Zy Zz Z10 Z11 Z12 Z13 Z14 Z15 Z16 Z17 Z18 Z19 Z1a Z1b Z1c Z1d Z1e Z1f Z1g Z1h Z1i Z1j Z1k Z1l Z1m Z1n Z1o Z1p Z1q Z1r Z1s Z1t Z1u Z1v Z1w Z1x Z1y Z1z Z20 Z21 Z22 Z23 Z24 Z25 Z26 Z27 Z28 Z29 Z2a Z2b Z2c Z2d Z2e Z2f Z2g Z2h Z2i Z2j Z2k Z2l Z2m Z2n Z2o Z2p Z2q Z2r Z2s Z2t Z2u Z2v Z2w Z2x Z2y Z2z Z30 Z31 Z32 Z33 Z34 Z35 Z36 Z37 Z38 Z39 Z3a Z3b Z3c Z3d Z3e Z3f Z3g Z3h Z3i Z3j Z3k Z3l Z3m Z3n Z3o Z3p Z3q Z3r Z3s Z3t Z3u Z3v Z3w Z3x Z3y Z3z Z40 Z41 : Value} {la : Addr} {n lc i k b5 b6 b7 base c : Nat} {A : Option Addr} {many : Int} {es : List (Int × Int)} {w0 X : World} {si sk : Int} (h : DeS w0 X b5 b6 b7 base many A c es) (hs : w0.heap.size ≤ b7 ∧ b5 < b6 ∧ b6 < b7 ∧ b7 < base) (hbs : base ≤ X.heap.size) (hlen : es.length ≤ 1000000) (x0 : (0 : Int) ≤ (i : Int)) (x1 : (i : Int) < (n : Int)) (x2 : (0 : Int) ≤ (k : Int)) (x3 : (k : Int) < (n : Int)) (a0 : X.cell? (la.add (i * 6)) = some (.int .i64 si)) (b0 : X.cell? (la.add (k * 6)) = some (.int .i64 sk)) (hcd : (Tryd.f8.body.bind (regionOf 11)) = some cd)
    (hQ : ∀ (y50 y51 y52 y53 y54 y55 y56 y57 y58 y59 y60 y61 y62 y63 : Value) (wo : World) (A' : Option Addr) (c' : Nat), DeS w0 wo b5 b6 b7 base many A' c' (es ++ [(si, sk)]) → base ≤ wo.heap.size → Q .normal ⟨#[Z0,.slice (some la) n lc,Z2,Z3,Z4,Z5,Z6,.pointer (some ⟨b7, 0, none⟩),.int .i64 (i : Nat),.int .i64 (k : Nat),Za,Zb,Zc,Zd,Ze,Zf,Zg,Zh,Zi,Zj,Zk,Zl,Zm,Zn,Zo,Zp,Zq,Zr,Zs,Zt,Zu,Zv,Zw,Zx,Zy,Zz,Z10,Z11,Z12,Z13,Z14,Z15,Z16,Z17,Z18,Z19,Z1a,Z1b,Z1c,Z1d,y50,y51,y52,y53,y54,y55,y56,y57,y58,y59,y60,y61,y62,y63,Z1s,Z1t,Z1u,Z1v,Z1w,Z1x,Z1y,Z1z,Z20,Z21,Z22,Z23,Z24,Z25,Z26,Z27,Z28,Z29,Z2a,Z2b,Z2c,Z2d,Z2e,Z2f,Z2g,Z2h,Z2i,Z2j,Z2k,Z2l,Z2m,Z2n,Z2o,Z2p,Z2q,Z2r,Z2s,Z2t,Z2u,Z2v,Z2w,Z2x,Z2y,Z2z,Z30,Z31,Z32,Z33,Z34,Z35,Z36,Z37,Z38,Z39,Z3a,Z3b,Z3c,Z3d,Z3e,Z3f,Z3g,Z3h,Z3i,Z3j,Z3k,Z3l,Z3m,Z3n,Z3o,Z3p,Z3q,Z3r,Z3s,Z3t,Z3u,Z3v,Z3w,Z3x,Z3y,Z3z,Z40,Z41], dl⟩ wo) :
    cd.wp Tryd.prog Q ⟨#[Z0,.slice (some la) n lc,Z2,Z3,Z4,Z5,Z6,.pointer (some ⟨b7, 0, none⟩),.int .i64 (i : Nat),.int .i64 (k : Nat),Za,Zb,Zc,Zd,Ze,Zf,Zg,Zh,Zi,Zj,Zk,Zl,Zm,Zn,Zo,Zp,Zq,Zr,Zs,Zt,Zu,Zv,Zw,Zx,Zy,Zz,Z10,Z11,Z12,Z13,Z14,Z15,Z16,Z17,Z18,Z19,Z1a,Z1b,Z1c,Z1d,Z1e,Z1f,Z1g,Z1h,Z1i,Z1j,Z1k,Z1l,Z1m,Z1n,Z1o,Z1p,Z1q,Z1r,Z1s,Z1t,Z1u,Z1v,Z1w,Z1x,Z1y,Z1z,Z20,Z21,Z22,Z23,Z24,Z25,Z26,Z27,Z28,Z29,Z2a,Z2b,Z2c,Z2d,Z2e,Z2f,Z2g,Z2h,Z2i,Z2j,Z2k,Z2l,Z2m,Z2n,Z2o,Z2p,Z2q,Z2r,Z2s,Z2t,Z2u,Z2v,Z2w,Z2x,Z2y,Z2z,Z30,Z31,Z32,Z33,Z34,Z35,Z36,Z37,Z38,Z39,Z3a,Z3b,Z3c,Z3d,Z3e,Z3f,Z3g,Z3h,Z3i,Z3j,Z3k,Z3l,Z3m,Z3n,Z3o,Z3p,Z3q,Z3r,Z3s,Z3t,Z3u,Z3v,Z3w,Z3x,Z3y,Z3z,Z40,Z41], dl⟩ X := by
  rw [show (Tryd.f8.body.bind (regionOf 11)) = some (Code.region 11 _ true) from rfl] at hcd
  obtain rfl := Option.some.inj hcd
  clear hcd
  dsimp only at hQ ⊢
  obtain ⟨ie, hie, hze0, hze1, hze2⟩ := info_parts e2Info
  have Hie := Lib.hid hie; have Hze0 := Lib.hid hze0; have Hze1 := Lib.hid hze1; have Hze2 := Lib.hid hze2
  clear hie hze0 hze1 hze2
  have D7 := h.x7.c1
  have hsz := h.x7.lt
  refine wp_region_noPanic ?_
  refine wp_region_any (by kernel_rfl) ?_
  refine wpAny_of_L (S := fun ls w' => (ls.getD 13 true = false → w'.cell? ⟨b7, 0, none⟩ = some (.slice A es.length c)) ∧ (ls.getD 11 true = false → w'.cell? (la.add (i * 6)) = some (.int .i64 si) ∧ w'.cell? (la.add (k * 6)) = some (.int .i64 sk))) _ _ _ _ ?_
  change wpAnyL Tryd.prog _ _ _ _ _ _ _ X.drew
  refine wpAnyL_take (i := 0) (q := 13) (v := .slice A es.length c) (fun w' => w'.cell? ⟨b7, 0, none⟩ = some (.slice A es.length c)) rfl (by kernel_rfl) (by kernel_rfl) (by kernel_rfl) (fun c a w h => h) rfl (by kernel_rfl) (by decide) (fun ls w => by simp) (fun ls w h1 h2 => h2.1 h1) rfl rfl (fun w h => by go_simp) ⟨fun _ => D7, fun _ => ⟨a0, b0⟩⟩ ?_
  try simp only [Act.put]
  refine wpAnyL_take (i := 1) (q := 3) (v := .slice (some la) n lc) (fun w' => True) rfl (by kernel_rfl) (by kernel_rfl) (by kernel_rfl) (fun c a w h => h) rfl (by kernel_rfl) (by decide) (fun ls w => by simp) (fun ls w h1 h2 => trivial) rfl rfl (fun w h => by go_simp) ⟨fun _ => D7, fun _ => ⟨a0, b0⟩⟩ ?_
  try simp only [Act.put]
  refine wpAnyL_take (i := 2) (q := 3) (v := .int .i64 (i : Nat)) (fun w' => True) rfl (by kernel_rfl) (by kernel_rfl) (by kernel_rfl) (fun c a w h => h) rfl (by kernel_rfl) (by decide) (fun ls w => by simp) (fun ls w h1 h2 => trivial) rfl rfl (fun w h => by go_simp) ⟨fun _ => D7, fun _ => ⟨a0, b0⟩⟩ ?_
  try simp only [Act.put]
  refine wpAnyL_take (i := 3) (q := 4) (v := .pointer (some (la.add (i * 6)))) (fun w' => True) rfl (by kernel_rfl) (by kernel_rfl) (by kernel_rfl) (fun c a w h => h) rfl (by kernel_rfl) (by decide) (fun ls w => by simp) (fun ls w h1 h2 => trivial) rfl rfl (fun w h => by go_simp) ⟨fun _ => D7, fun _ => ⟨a0, b0⟩⟩ ?_
  try simp only [Act.put]
  refine wpAnyL_take (i := 4) (q := 5) (v := .pointer (some (la.add (i * 6)))) (fun w' => True) rfl (by kernel_rfl) (by kernel_rfl) (by kernel_rfl) (fun c a w h => h) rfl (by kernel_rfl) (by decide) (fun ls w => by simp) (fun ls w h1 h2 => trivial) rfl rfl (fun w h => by go_simp) ⟨fun _ => D7, fun _ => ⟨a0, b0⟩⟩ ?_
  try simp only [Act.put]
  refine wpAnyL_take (i := 5) (q := 11) (v := .int .i64 si) (fun w' => w'.cell? (la.add (i * 6)) = some (.int .i64 si)) rfl (by kernel_rfl) (by kernel_rfl) (by kernel_rfl) (fun c a w h => h) rfl (by kernel_rfl) (by decide) (fun ls w => by simp) (fun ls w h1 h2 => (h2.2 h1).1) rfl rfl (fun w h => by go_simp) ⟨fun _ => D7, fun _ => ⟨a0, b0⟩⟩ ?_
  try simp only [Act.put]
  refine wpAnyL_take (i := 6) (q := 8) (v := .slice (some la) n lc) (fun w' => True) rfl (by kernel_rfl) (by kernel_rfl) (by kernel_rfl) (fun c a w h => h) rfl (by kernel_rfl) (by decide) (fun ls w => by simp) (fun ls w h1 h2 => trivial) rfl rfl (fun w h => by go_simp) ⟨fun _ => D7, fun _ => ⟨a0, b0⟩⟩ ?_
  try simp only [Act.put]
  refine wpAnyL_take (i := 7) (q := 8) (v := .int .i64 (k : Nat)) (fun w' => True) rfl (by kernel_rfl) (by kernel_rfl) (by kernel_rfl) (fun c a w h => h) rfl (by kernel_rfl) (by decide) (fun ls w => by simp) (fun ls w h1 h2 => trivial) rfl rfl (fun w h => by go_simp) ⟨fun _ => D7, fun _ => ⟨a0, b0⟩⟩ ?_
  try simp only [Act.put]
  refine wpAnyL_take (i := 8) (q := 9) (v := .pointer (some (la.add (k * 6)))) (fun w' => True) rfl (by kernel_rfl) (by kernel_rfl) (by kernel_rfl) (fun c a w h => h) rfl (by kernel_rfl) (by decide) (fun ls w => by simp) (fun ls w h1 h2 => trivial) rfl rfl (fun w h => by go_simp) ⟨fun _ => D7, fun _ => ⟨a0, b0⟩⟩ ?_
  try simp only [Act.put]
  refine wpAnyL_take (i := 9) (q := 10) (v := .pointer (some (la.add (k * 6)))) (fun w' => True) rfl (by kernel_rfl) (by kernel_rfl) (by kernel_rfl) (fun c a w h => h) rfl (by kernel_rfl) (by decide) (fun ls w => by simp) (fun ls w h1 h2 => trivial) rfl rfl (fun w h => by go_simp) ⟨fun _ => D7, fun _ => ⟨a0, b0⟩⟩ ?_
  try simp only [Act.put]
  refine wpAnyL_take (i := 10) (q := 11) (v := .int .i64 sk) (fun w' => w'.cell? (la.add (k * 6)) = some (.int .i64 sk)) rfl (by kernel_rfl) (by kernel_rfl) (by kernel_rfl) (fun c a w h => h) rfl (by kernel_rfl) (by decide) (fun ls w => by simp) (fun ls w h1 h2 => (h2.2 h1).2) rfl rfl (fun w h => by go_simp) ⟨fun _ => D7, fun _ => ⟨a0, b0⟩⟩ ?_
  try simp only [Act.put]
  refine wpAnyL_one (i := 11) (by kernel_rfl) ?_
  refine wpOp_K (fun K hK => ?_)
  refine wpOp_one rfl rfl ?_
  go_simp
  refine hK _ _ ⟨⟨fun _ => D7, fun h => absurd h (by simp)⟩, ?_⟩
  clear hK K
  try simp only [Act.put]
  refine wpAnyL_one (i := 12) (by kernel_rfl) ?_
  refine wpOp_K (fun K hK => ?_)
  refine wpOp_one rfl rfl ?_
  go_simp
  refine hK _ _ ⟨⟨fun _ => ?_, fun h => absurd h (by simp)⟩, ?_⟩
  · exact (World.cell?_alloc_lt X.drew _ ⟨b7, 0, none⟩ hsz).trans D7
  clear hK K
  try simp only [Act.put]
  refine wpAnyL_one (i := 13) (by kernel_rfl) ?_
  refine wpOp_K (fun K hK => ?_)
  refine wpOp_one rfl rfl ?_
  have hd := h.next (Below.refl X.heap.size X).drew
  refine push_wp (w := X.drew) (w0 := w0) (cell := e2cell) (y := (si, sk)) _ _ _ rfl base w0.heap.size 60 ie _ 16 Tryd.underlying58 Hie.out Hze0.out Hze1.out Hze2.out rfl (by decide) (.slice A es.length c) es.length es (by simp [Act.eval]) hd.own _ _ rfl 1 (by simp [Act.eval]) (e2_one _) (by unfold maxLen; omega) (by omega) hbs (by omega) hd.bel ?_
  intro v' w8 hown8 hb8 hg8
  obtain ⟨g8, cap8, rfl⟩ := ownsRow_succ hown8
  have p8 := hd.push hs hb8 hown8 hg8
  have x78 := hd.x7.grown hg8 (hd.x7.ne_own (by decide) hd.own)
  have f78 := x78.frozen 0
  have c78 := x78.c1
  have s8 : base ≤ w8.heap.size := Nat.le_trans hbs hg8.size
  refine hK _ _ ⟨⟨fun h => absurd h (by simp), fun h => absurd h (by simp)⟩, ?_⟩
  clear hK K
  try simp only [Act.put]
  refine wpAnyL_one (i := 14) (by kernel_rfl) ?_
  refine wpOp_K (fun K hK => ?_)
  refine wpOp_one rfl rfl ?_
  go_simp
  refine hK _ _ ⟨⟨fun h => absurd h (by simp), fun h => absurd h (by simp)⟩, ?_⟩
  clear hK K
  try simp only [Act.put]
  refine wpAnyL_done (by kernel_rfl) (NoPanic.normal ?_) _
  exact hQ _ _ _ _ _ _ _ _ _ _ _ _ _ _ _ _ _ p8 (by rw [World.size_setCell]; exact s8)
end Go.Proofs.YtceobfigfmnacaaDoor
end

section
namespace Go.Proofs.YtceobfigfmnacaaDoor
open Go Go.RowKit
set_option maxRecDepth 100000
theorem run_equalIn_func_nil {P : Program} (w : World) (d : Nat) (t : TypeId) (ps rs v) (f : Fn) (a b : Array Value) (h : P.underlying t = some (.func ps rs v)) : (Op.equalIn (d + 1) t (.func f a b) .nilFunc).run P w = .ok false w := by
  simp [Op.equalIn, run_underlying h]
theorem run_equal_func_nil {P : Program} (w : World) (t : TypeId) (ps rs v) (f : Fn) (a b : Array Value) (h : P.underlying t = some (.func ps rs v)) : (Op.equal t (.func f a b) .nilFunc).run P w = .ok false w := run_equalIn_func_nil w 9999 t ps rs v f a b h
theorem edges_not_nil (w : World) (f : Fn) (a b : Array Value) : (binOp .eql 62 (.func f a b) .nilFunc).run Tryd.prog w = .ok (.bool false) w := by
  have h : (Op.equal 62 (.func f a b) .nilFunc).run Tryd.prog w = .ok false w := run_equal_func_nil w _ _ _ _ f a b Tryd.underlying62
  simp [binOp, go_sem, h]
theorem spoil {w : World} {base g n cap : Nat} {e : TypeId} {ms : List Mv} (h : w.ownsRow base e 6 (.slice (some ⟨g, 0, none⟩) n cap) n (flat 6 mvcell ms)) {k : Nat} (hk : k < ms.length) {j : Nat} (hj : j = 1 ∨ j = 2) :
    ∃ ms' : List Mv, ms'.length = ms.length ∧ (w.setCell ⟨g, k * 6 + j, none⟩ (.int .i64 0)).ownsRow base e 6 (.slice (some ⟨g, 0, none⟩) n cap) n (flat 6 mvcell ms') := by
  rcases hj with rfl | rfl
  · refine ⟨ms.set k { ms[k] with old := 0 }, by simp, own_set h hk (by decide) rfl (fun j' h1 h2 => ?_)⟩
    rcases j' with _ | _ | _ | _ | _ | _ | j' <;> first | rfl | omega
  · refine ⟨ms.set k { ms[k] with new := 0 }, by simp, own_set h hk (by decide) rfl (fun j' h1 h2 => ?_)⟩
    rcases j' with _ | _ | _ | _ | _ | _ | j' <;> first | rfl | omega
structure EsB (lo : Nat) (W : World) (b : Nat) (A : Option Addr) (c : Nat) (es : List (Int × Int)) : Prop where
  ge : lo ≤ b
  x : Box W b #[.slice A es.length c] 58
  own : W.ownsRow lo 60 2 (.slice A es.length c) es.length (flat 2 e2cell es)
section
variable {lo : Nat} {W W' : World} {b : Nat} {A : Option Addr} {c : Nat} {es : List (Int × Int)}
theorem EsB.next (h : EsB lo W b A c es) (hb : Below W.heap.size W W') : EsB lo W' b A c es := ⟨h.ge, h.x.below hb, own_below h.own hb⟩
theorem EsB.own' {row : Option Nat} {B : Nat} (h : EsB lo W b A c es) (hg : W.grownBy W' row) (hr : ∀ r, row = some r → B ≤ r ∧ ∃ o : Obj, W.heap[r]? = some o ∧ o.isCells = false) : EsB lo W' b A c es :=
  ⟨h.ge, h.x.own hg hr, row_own h.own hg hr⟩
theorem EsB.far {g : Nat} (h : EsB lo W b A c es) (hg : W.grownBy W' (some g)) (hl : g < lo) : EsB lo W' b A c es :=
  ⟨h.ge, h.x.grown hg (fun e => by have e2 : b = g := Option.some.inj e; have := h.ge; omega), h.own.kept hg (by
    cases hv : (Value.slice A es.length c).ownBlock with
    | none => exact .inl rfl
    | some b' => exact .inr (fun e => by have e2 : b' = g := Option.some.inj e; have := (h.own.lt b' hv).1; omega))⟩
theorem EsB.set_box {g i : Nat} {cs : Array Value} {t : TypeId} (h : EsB lo W b A c es) (hx : Box W g cs t) (ht : t ≠ 60) (hg : g ≠ b) (v : Value) : EsB lo (W.setCell ⟨g, i, none⟩ v) b A c es :=
  ⟨h.ge, h.x.set_other (by dsimp only; omega) v, h.own.kept (grown_set W g i v) (.inr (fun e => hx.ne_own ht h.own e.symm))⟩
theorem EsB.sl (h : EsB lo W b A c es) : Sl 2 e2cell W W.heap.size A es := by
  obtain ⟨A', c', e, hS⟩ := own_slice (by decide) h.own
  injection e with e1 e2 e3
  subst e1
  exact hS
end
section
variable {w W W' : World} {b5 b6 b7 base : Nat} {many : Int} {A : Option Addr} {c : Nat} {es : List (Int × Int)}
theorem DeS.set_box {g i : Nat} {cs : Array Value} {t : TypeId} (h : DeS w W b5 b6 b7 base many A c es) (hx : Box W g cs t) (ht : t ≠ 60) (hw : w.heap.size ≤ g) (h5 : b5 ≠ g) (h6 : b6 ≠ g) (h7 : b7 ≠ g) (v : Value) : DeS w (W.setCell ⟨g, i, none⟩ v) b5 b6 b7 base many A c es :=
  h.far (grown_set W g i v) hw h5 h6 h7 (.inr (fun e => hx.ne_own ht h.own e.symm))
theorem DeS.sl (h : DeS w W b5 b6 b7 base many A c es) : Sl 2 e2cell W W.heap.size A es := by
  obtain ⟨A', c', e, hS⟩ := own_slice (by decide) h.own
  injection e with e1 e2 e3
  subst e1
  exact hS
theorem DeS.far_row {g : Nat} (h : DeS w W b5 b6 b7 base many A c es) (hg : W.grownBy W' (some g)) {B : Nat} {e : TypeId} {size n cap : Nat} {xs : List Value} (hr : W.ownsRow B e size (.slice (some ⟨g, 0, none⟩) n cap) n xs) (he : e ≠ 60) (hw : w.heap.size ≤ g) (h5 : b5 ≠ g) (h6 : b6 ≠ g) (h7 : b7 ≠ g) : DeS w W' b5 b6 b7 base many A c es :=
  h.far hg hw h5 h6 h7 (by
    rcases h.own.2 with ⟨e1, _⟩ | ⟨g', cap', cur, e1, _, hb', _⟩
    · left; rw [e1]; rfl
    · right
      rw [e1]
      intro e2
      have e3 : g' = g := Option.some.inj e2
      subst e3
      rcases hr.2 with ⟨e4, _⟩ | ⟨g'', cap'', cur', e4, _, hb'', _⟩
      · cases e4
      · injection e4 with e5
        injection e5 with e6
        injection e6 with e7
        subst e7
        rw [hb'] at hb''
        injection hb'' with e8
        injection e8 with _ e9
        exact he e9.symm)
theorem took_all {n : Nat} {many : Int} (h : n = 0 ∨ (n : Int) < many) : (n : Int) = min (n : Int) (max 1 many) := by omega
theorem took_some {n k : Nat} {many : Int} (h0 : k = 0 ∨ (k : Int) < many) (h1 : many ≤ (k : Int) + 1) (h2 : k + 1 ≤ n) : (k : Int) + 1 = min (n : Int) (max 1 many) := by omega
end
theorem Box.ne_box {w : World} {b b' : Nat} {cs cs' : Array Value} {t t' : TypeId} (h : Box w b cs t) (h' : Box w b' cs' t') (ht : t ≠ t') : b ≠ b' := by
  rintro rfl
  unfold Box at h h'
  rw [h] at h'
  injection h' with h1
  injection h1 with _ h2
  exact ht h2
structure RgS (w : World) (b5 b6 b7 base : Nat) (many : Int) (A : Option Addr) (c : Nat) (es : List (Int × Int)) (lo b : Nat) (A2 : Option Addr) (c2 : Nat) (b13 b14 t B C : Nat) (ds : List Deferred) (k : Nat) (W : World) : Prop where
  de : DeS w W b5 b6 b7 base many A c es
  eb : EsB lo W b A2 c2 es
  x13 : Box W b13 #[.int .i64 (t : Nat)] 3
  x14 : Box W b14 #[.int .i64 (k : Nat)] 3
  mrk : Marks B C ds W
section
variable {w W W' : World} {b5 b6 b7 base : Nat} {many : Int} {A : Option Addr} {c : Nat} {es : List (Int × Int)} {lo b : Nat} {A2 : Option Addr} {c2 b13 b14 t B C : Nat} {ds : List Deferred} {k : Nat}
theorem RgS.own' {row : Option Nat} {B' : Nat} (h : RgS w b5 b6 b7 base many A c es lo b A2 c2 b13 b14 t B C ds k W) (hB : w.heap.size ≤ B') (hC : C ≤ B') (hg : W.grownBy W' row) (hr : ∀ r, row = some r → B' ≤ r ∧ ∃ o : Obj, W.heap[r]? = some o ∧ o.isCells = false) : RgS w b5 b6 b7 base many A c es lo b A2 c2 b13 b14 t B C ds k W' :=
  ⟨h.de.own' hB hg hr, h.eb.own' hg hr, h.x13.own hg hr, h.x14.own hg hr, h.mrk.own hC hg hr⟩
theorem RgS.inc (h : RgS w b5 b6 b7 base many A c es lo b A2 c2 b13 b14 t B C ds k W) (hw : w.heap.size ≤ b14) (h5 : b5 ≠ b14) (h6 : b6 ≠ b14) (h7 : b7 ≠ b14) (h13 : b13 ≠ b14) : RgS w b5 b6 b7 base many A c es lo b A2 c2 b13 b14 t B C ds (k + 1) (W.setCell ⟨b14, 0, none⟩ (.int .i64 ((k : Int) + 1))) :=
  ⟨h.de.set_box h.x14 (by decide) hw h5 h6 h7 _, h.eb.set_box h.x14 (by decide) (h.x14.ne_box h.eb.x (by decide)) _, h.x13.set_other (by dsimp only; omega) _, h.x14.set 0 _, h.mrk.set_other h.x14 _⟩
end
end Go.Proofs.YtceobfigfmnacaaDoor
end
