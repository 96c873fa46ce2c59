/- A bundle of texts: Rd5, Rd6, Rd7, Ld, Ld2, LdFr0, LdFr, LdSt0. -/
import Derived.Test.YtceobfigfmnacaaDoorH24
import Derived.Test.YtceobfigfmnacaaDoorH22
import Derived.Test.YtceobfigfmnacaaDoorH18
import Derived.Test.YtceobfigfmnacaaDoorH01
import Derived.BigRegion
section
namespace Go.Proofs.YtceobfigfmnacaaDoor
open Go Go.RowKit
set_option maxRecDepth 100000
end Go.Proofs.YtceobfigfmnacaaDoor
end

section
namespace Go.Proofs.YtceobfigfmnacaaDoor
open Go Go.RowKit
set_option maxRecDepth 100000
namespace M
def setL (L : Nat → Nat) (i a : Nat) : Nat → Nat := fun j => if j = i then a else L j
end M
abbrev NR (w : World) (base g n : Nat) (L : Nat → Nat) : Prop := w.ownsRow base 3 1 (.slice (some ⟨g, 0, none⟩) n n) n (flat 1 icell (Dg.fl n fun j => (L j : Int)))
theorem NR.at {w : World} {base g n : Nat} {L : Nat → Nat} (h : NR w base g n L) {k : Nat} (hk : k < n) : w.cell? ⟨g, k, none⟩ = some (.int .i64 (L k)) ∧ w.frozen? ⟨g, k, none⟩ = false := by
 have := own_at h (k := k) (j := 0) (by rw [Dg.fl_len]; exact hk) (by decide)
 rw [Nat.mul_one, Nat.add_zero] at this
 refine ⟨this.1.trans ?_, this.2⟩
 rw [Dg.fl_at]
 rfl
theorem NR.set {w : World} {base g n : Nat} {L : Nat → Nat} (h : NR w base g n L) {k : Nat} (hk : k < n) (y : Nat) : NR (w.setCell ⟨g, k, none⟩ (.int .i64 y)) base g n (M.setL L k y) := by
 have h3 := own_set (size := 1) (cell := icell) h (k := k) (by rw [Dg.fl_len]; exact hk) (j := 0) (y := (y : Int)) (u := .int .i64 y) (by decide) rfl (fun j' h1 h2 => absurd h1 (by omega))
 rw [Nat.mul_one, Nat.add_zero, Dg.fl_set] at h3
 have e : (fun j => if j = k then (y : Int) else (L j : Int)) = fun j => ((M.setL L k y j : Nat) : Int) := by funext j; unfold M.setL; split <;> rfl
 rw [e] at h3
 exact h3
theorem NR.congr {w : World} {base g n : Nat} {L L' : Nat → Nat} (h : NR w base g n L) (e : L = L') : NR w base g n L' := e ▸ h
end Go.Proofs.YtceobfigfmnacaaDoor
end

section
namespace Go.Proofs.YtceobfigfmnacaaDoor
open Go Go.RowKit
set_option maxRecDepth 100000
namespace M
end M
end Go.Proofs.YtceobfigfmnacaaDoor
end

section
namespace Go.Proofs.YtceobfigfmnacaaDoor
open Go Go.RowKit
set_option maxRecDepth 100000
structure LW (w W : World) (PA LA : Option Addr) (ps : List P5) (l : List Mv) : Prop where
 bel : Below w.heap.size w W
 tab0 : Tab64 w
 p0 : Sl 5 p5cell w w.heap.size PA ps
 l0 : Sl 6 mvcell w w.heap.size LA l
 ints : M.Ints ps l
section
variable {w W W' : World} {PA LA : Option Addr} {ps : List P5} {l : List Mv}
theorem LW.next (h : LW w W PA LA ps l) (hb : Below W.heap.size W W') : LW w W' PA LA ps l := ⟨after_ h.bel hb, h.tab0, h.p0, h.l0, h.ints⟩
theorem LW.tab (h : LW w W PA LA ps l) : Tab64 W := h.tab0.kept h.bel
theorem LW.pairs (h : LW w W PA LA ps l) : Sl 5 p5cell W W.heap.size PA ps := (h.p0.below h.bel).more h.bel.size
theorem LW.moves (h : LW w W PA LA ps l) : Sl 6 mvcell W W.heap.size LA l := (h.l0.below h.bel).more h.bel.size
theorem LW.iw (h : LW w W PA LA ps l) : ∀ p ∈ ps, M.W64 p.a ∧ M.W64 p.b := fun p hp => ⟨(h.ints.p p hp).1, (h.ints.p p hp).2.1⟩
theorem LW.known (h : LW w W PA LA ps l) : Calls Tryd.prog 9 #[] W fun e w' => e = .returned (.bool true) ∧ Below W.heap.size W w' := known47_any W h.tab
end
end Go.Proofs.YtceobfigfmnacaaDoor
end

section
namespace Go.Proofs.YtceobfigfmnacaaDoor
open Go Go.RowKit
set_option maxRecDepth 100000
namespace M
theorem err_ok {ps : List P5} {l : List Mv} {a : Int} (h : errIs ps l a) (hp : ps.length ≤ 20000) (hok : mvsOk l) : a = 0 := by
  rcases h with ⟨-, -, h⟩ | ⟨-, h2, -⟩ | ⟨h1, -⟩
  · exact h
  · omega
  · exact absurd hok h1
theorem err_no {ps : List P5} {l : List Mv} {a : Int} (h : errIs ps l a) (hno : ¬ mvsOk l) : a = 2 := by
  rcases h with ⟨h1, -⟩ | ⟨h1, -⟩ | ⟨-, h⟩
  · exact absurd h1 hno
  · exact absurd h1 hno
  · exact h
theorem grps_len {ps : List P5} {l : List Mv} (h : mvsOk l) : (grps ps l).length ≤ 512 ∧ ∀ s ∈ grps ps l, s.length ≤ 512 := by
  have hR := rows_ok (ps := ps) h.1
  constructor
  · have h1 := (Dg.ord_perm hR).length_eq
    have h2 := Dg.leads_len (rows ps l)
    have h3 := rows_len ps l
    have h4 := h.1
    unfold grps
    rw [List.length_map]
    omega
  · intro s hs
    unfold grps at hs
    obtain ⟨v, -, rfl⟩ := List.mem_map.1 hs
    rw [sts_eq, List.length_map]
    exact Bs.els_len _ _
end M
section
variable {w W : World} {PA LA : Option Addr} {ps : List P5} {l : List Mv}
theorem LW.groups (h : LW w W PA LA ps l) (pc lc : Nat) (hp : ps.length ≤ 20000) (hl : l.length ≤ 512) (hok : M.mvsOk l) : Calls Tryd.prog 15 #[.slice PA ps.length pc, .slice LA l.length lc] W fun e w' => (∃ A c ls, e = .returned (.tuple #[.slice A ls.length c, .int .i64 0]) ∧ LO w' W.heap.size (.slice A ls.length c) ls ∧ ls.map (·.xs) = M.grps ps l) ∧ Below W.heap.size W w' := by
  refine (groups_ok PA pc ps.length ps LA lc l W h.tab rfl h.pairs h.moves (by omega) h.iw).mono ?_
  rintro e w' ⟨⟨er, her, hc⟩, hb⟩
  refine ⟨?_, hb⟩
  rcases hc with ⟨h1, -⟩ | ⟨-, A, c, ls, rfl, hlo, hls⟩
  · exact absurd (M.err_ok her hp hok) h1
  · exact ⟨A, c, ls, rfl, hlo, hls⟩
theorem LW.groupsNo (h : LW w W PA LA ps l) (pc lc : Nat) (hl : l.length ≤ 512) (hno : ¬ M.mvsOk l) : Calls Tryd.prog 15 #[.slice PA ps.length pc, .slice LA l.length lc] W fun e w' => e = .returned (.tuple #[.slice none 0 0, .int .i64 2]) ∧ Below W.heap.size W w' := by
  refine (groups_ok PA pc ps.length ps LA lc l W h.tab rfl h.pairs h.moves (by omega) h.iw).mono ?_
  rintro e w' ⟨⟨er, her, hc⟩, hb⟩
  refine ⟨?_, hb⟩
  obtain rfl := M.err_no her hno
  rcases hc with ⟨-, rfl⟩ | ⟨h1, -⟩
  · rfl
  · cases h1
theorem LW.before (h : LW w W PA LA ps l) (pc lc : Nat) (st : Int) (hst : M.W64 st) (hp : ps.length ≤ 20000) (hl : l.length ≤ 512) (hok : M.mvsOk l) : Calls Tryd.prog 17 #[.slice PA ps.length pc, .slice LA l.length lc, .int .i64 st] W fun e w' => ((M.idx l st = none ∧ e = .returned (.tuple #[.slice none 0 0, .int .i64 9])) ∨ ∃ v A c, M.idx l st = some v ∧ e = .returned (.tuple #[.slice A (M.bef ps l v).length c, .int .i64 0]) ∧ Sl 1 icell w' w'.heap.size A (M.bef ps l v)) ∧ Below W.heap.size W w' := by
  refine (before_ok PA pc ps.length ps LA lc l st W h.tab rfl h.pairs h.moves (by omega) h.iw hst).mono ?_
  rintro e w' ⟨⟨er, her, hc⟩, hb⟩
  refine ⟨?_, hb⟩
  rcases hc with ⟨h1, -⟩ | ⟨-, hc⟩
  · exact absurd (M.err_ok her hp hok) h1
  · exact hc
theorem LW.depth (h : LW w W PA LA ps l) (pc lc : Nat) (hp : ps.length ≤ 20000) (hl : l.length ≤ 512) (hok : M.mvsOk l) : Calls Tryd.prog 19 #[.slice PA ps.length pc, .slice LA l.length lc] W fun e w' => e = .returned (.tuple #[.int .i64 (Dg.depth (M.rows ps l) : Nat), .int .i64 0]) ∧ Below W.heap.size W w' := by
  refine (depth_ok PA pc ps.length ps LA lc l W h.tab rfl h.pairs h.moves (by omega) h.iw).mono ?_
  rintro e w' ⟨⟨er, her, hc⟩, hb⟩
  refine ⟨?_, hb⟩
  rcases hc with ⟨h1, -⟩ | ⟨-, rfl⟩
  · exact absurd (M.err_ok her hp hok) h1
  · rfl
theorem LW.depthNo (h : LW w W PA LA ps l) (pc lc : Nat) (hl : l.length ≤ 512) (hno : ¬ M.mvsOk l) : Calls Tryd.prog 19 #[.slice PA ps.length pc, .slice LA l.length lc] W fun e w' => e = .returned (.tuple #[.int .i64 0, .int .i64 2]) ∧ Below W.heap.size W w' := by
  refine (depth_ok PA pc ps.length ps LA lc l W h.tab rfl h.pairs h.moves (by omega) h.iw).mono ?_
  rintro e w' ⟨⟨er, her, hc⟩, hb⟩
  refine ⟨?_, hb⟩
  obtain rfl := M.err_no her hno
  rcases hc with ⟨-, rfl⟩ | ⟨h1, -⟩
  · rfl
  · cases h1
theorem LW.legal (h : LW w W PA LA ps l) (pc lc : Nat) (OA : Option Addr) (oc : Nat) (os : List SLc) (hO : LL W OA os) (hol : os.length ≤ 9223372036854775806) (hoi : ∀ s ∈ os, s.xs.length ≤ 9223372036854775806 ∧ ∀ x ∈ s.xs, M.W64 x) (hp : ps.length ≤ 20000) (hl : l.length ≤ 512) (hok : M.mvsOk l) : Calls Tryd.prog 23 #[.slice PA ps.length pc, .slice LA l.length lc, .slice OA os.length oc] W fun e w' => e = .returned (.int .i64 (M.legal ps l (os.map (·.xs)))) ∧ Below W.heap.size W w' := by
  refine (legal_ok PA pc ps.length ps LA lc l OA oc os W h.tab rfl h.pairs h.moves (by omega) h.iw hO hol hoi).mono ?_
  rintro e w' ⟨⟨er, her, hc⟩, hb⟩
  refine ⟨?_, hb⟩
  rcases hc with ⟨h1, -⟩ | ⟨-, rfl⟩
  · exact absurd (M.err_ok her hp hok) h1
  · rfl
end
end Go.Proofs.YtceobfigfmnacaaDoor
end

section
namespace Go.Proofs.YtceobfigfmnacaaDoor
open Go Go.RowKit
set_option maxRecDepth 100000
set_option maxHeartbeats 32000000 in
theorem free_reg7 {Q : Exit → Act → World → Prop} {cd : Code} {dl : List Deferred} {Z0 Z2 Z3 Z4 Z5 Z6 Z9 Za Zb Zc Zd Ze Zf Zg Zh Zi Zj Zk Zl Zm Zn Zo Zp Zq Zr Zs Zt Zu Zv Zw Zx Zy Zz Z10 Z11 Z12 Z13 Z14 Z15 Z16 Z17 Z18 Z19 Z1a Z1b Z1c Z1d Z1e Z1f Z1g Z1h Z1i Z1j Z1k Z1l Z1m Z1n Z1o Z1p Z1q Z1r Z1s Z1t Z1u Z1v : Value} {la : Addr} {n lc i k : Nat} {w : World} {mi mk : Mv} (x0 : (0 : Int) ≤ (i : Int)) (x1 : (i : Int) < (n : Int)) (x2 : (0 : Int) ≤ (k : Int)) (x3 : (k : Int) < (n : Int)) (hl1 : (la.add (i * 6)).block < w.heap.size) (hl2 : (la.add (k * 6)).block < w.heap.size) (a0 : w.cell? (la.add (i * 6)) = some (.int .i64 mi.st)) (a1 : w.cell? ⟨(la.add (i * 6)).block, (la.add (i * 6)).off + 1, none⟩ = some (.int .i64 mi.old)) (b0 : w.cell? (la.add (k * 6)) = some (.int .i64 mk.st)) (b1 : w.cell? ⟨(la.add (k * 6)).block, (la.add (k * 6)).off + 1, none⟩ = some (.int .i64 mk.old)) (hcd : (Tryd.f25.body.bind (regionOf 7)) = some cd)
    (hQ : ∀ (y22 y23 y24 y25 y26 y27 y28 y29 y30 y31 y32 y33 y34 y35 y36 y37 y38 y39 y40 y41 y42 y43 : Value) (wo : World) (ba bb : Nat), Box wo ba #[.int .i64 mi.st, .int .i64 mi.old] 24 → Box wo bb #[.int .i64 mk.st, .int .i64 mk.old] 24 → ba ≠ bb → w.heap.size ≤ ba → w.heap.size ≤ bb → Below w.heap.size w wo → Q .normal ⟨#[Z0,.slice (some la) n lc,Z2,Z3,Z4,Z5,Z6,.int .i64 (i : Nat),.int .i64 (k : Nat),.pointer (some ⟨ba, 0, none⟩),.pointer (some ⟨bb, 0, none⟩),Zb,Zc,Zd,Ze,Zf,Zg,Zh,Zi,Zj,Zk,Zl,y22,y23,y24,y25,y26,y27,y28,y29,y30,y31,y32,y33,y34,y35,y36,y37,y38,y39,y40,y41,y42,y43,Z18,Z19,Z1a,Z1b,Z1c,Z1d,Z1e,Z1f,Z1g,Z1h,Z1i,Z1j,Z1k,Z1l,Z1m,Z1n,Z1o,Z1p,Z1q,Z1r,Z1s,Z1t,Z1u,Z1v], dl⟩ wo) :
    cd.wp Tryd.prog Q ⟨#[Z0,.slice (some la) n lc,Z2,Z3,Z4,Z5,Z6,.int .i64 (i : Nat),.int .i64 (k : Nat),Z9,Za,Zb,Zc,Zd,Ze,Zf,Zg,Zh,Zi,Zj,Zk,Zl,Zm,Zn,Zo,Zp,Zq,Zr,Zs,Zt,Zu,Zv,Zw,Zx,Zy,Zz,Z10,Z11,Z12,Z13,Z14,Z15,Z16,Z17,Z18,Z19,Z1a,Z1b,Z1c,Z1d,Z1e,Z1f,Z1g,Z1h,Z1i,Z1j,Z1k,Z1l,Z1m,Z1n,Z1o,Z1p,Z1q,Z1r,Z1s,Z1t,Z1u,Z1v], dl⟩ w := by
  rw [show (Tryd.f25.body.bind (regionOf 7)) = some (Code.region 7 _ true) from rfl] at hcd
  obtain rfl := Option.some.inj hcd
  clear hcd
  dsimp only at hQ ⊢
  have HQ := Lib.hid hQ
  clear hQ
  refine wp_region_noPanic ?_
  go_region
  · obtain ⟨X, HX, xa, xb, hbX, -⟩ := boxes2 w #[.int .i64 mi.st, .int .i64 mi.old] 24 #[.int .i64 mk.st, .int .i64 mk.old] 24
    rw [HX.out]
    exact NoPanic.normal (HQ.out _ _ _ _ _ _ _ _ _ _ _ _ _ _ _ _ _ _ _ _ _ _ _ w.heap.size (w.heap.size + 1) (xa.below (Below.refl X.heap.size X).drew) (xb.below (Below.refl X.heap.size X).drew) (by omega) (Nat.le_refl _) (by omega) hbX.drew)
  · obtain ⟨X, HX, xb, xa, hbX, -⟩ := boxes2 w #[.int .i64 mk.st, .int .i64 mk.old] 24 #[.int .i64 mi.st, .int .i64 mi.old] 24
    rw [HX.out]
    exact NoPanic.normal (HQ.out _ _ _ _ _ _ _ _ _ _ _ _ _ _ _ _ _ _ _ _ _ _ _ (w.heap.size + 1) w.heap.size (xa.below (Below.refl X.heap.size X).drew) (xb.below (Below.refl X.heap.size X).drew) (by omega) (by omega) (Nat.le_refl _) hbX.drew)
end Go.Proofs.YtceobfigfmnacaaDoor
end

section
namespace Go.Proofs.YtceobfigfmnacaaDoor
open Go Go.RowKit
set_option maxRecDepth 100000
set_option maxHeartbeats 32000000 in
theorem LW.free {w W : World} {PA LA : Option Addr} {ps : List P5} {l : List Mv} (h : LW w W PA LA ps l) (pc lc : Nat) (MA : Option Addr) (mc : Nat) (mv : Nat → Bool) (hM : Sl 1 blc W W.heap.size MA (fnl l.length mv)) (hp : ps.length ≤ 1000000) (hl : l.length ≤ 1000000) :
    Calls Tryd.prog 25 #[.slice PA ps.length pc, .slice LA l.length lc, .slice MA l.length mc] W fun e w' => (∃ r, e = .returned (.bool r) ∧ (r = true ↔ M.free ps l mv)) ∧ Below W.heap.size W w' := by
  have HP := Lib.hid (fun (u : World) (hu : Below W.heap.size W u) => (h.next hu).pairs)
  have HL := Lib.hid (fun (u : World) (hu : Below W.heap.size W u) => (h.next hu).moves)
  have HM := Lib.hid (fun (u : World) (hu : Below W.heap.size W u) => (hM.below hu).more hu.size)
  clear h hM
  obtain ⟨n, hn⟩ : ∃ n, l.length = n := ⟨_, rfl⟩
  have HN := Lib.hid hn
  rw [hn] at hl ⊢
  clear hn
  go_enter Tryd.func25, Tryd.ntmps25
  go_wp2_with fail
  refine wp_loop_mrg [7, 8, 9, 10, 11, 12, 13, 14, 15, 16, 17, 18, 19, 20, 21, 22, 23, 24, 25, 26, 27, 28, 29, 30, 31, 32, 33, 34, 35, 36, 37, 38, 39, 40, 41, 42, 43, 44, 45, 46, 47, 48, 49, 50, 51, 52, 53, 54, 55, 56, 57, 58, 59, 60, 61, 62, 63, 64, 65, 66, 67] (fun mm f ds W0 => ds = [] ∧ ∃ (i : Nat), f 7 = .int .i64 i ∧ mm = n - i ∧ i ≤ n ∧ Below W.heap.size W W0 ∧ Hid (∀ a k (ha : a < l.length) (hk : k < l.length), a < i → k < a → M.forbd ps (M.chOf l[a] (mv a)) (M.chOf l[k] (mv k)) = false)) n ⟨rfl, 0, rfl, rfl, Nat.zero_le _, Below.refl _ _, Lib.hid (fun a k _ _ h => absurd h (by omega))⟩ ?_
  intro c1' T1' hc2 hT2
  rintro mm f ds W0 ⟨rfl, i, hf7, rfl, hi, hB, HI⟩
  replace hc2 := hc2.out
  subst hc2
  replace hT2 := hT2.out
  subst hT2
  generalize hF : mrgF _ 0 _ _ = F
  simp only [mrg_hit, mrg_miss, mrg_nil, Nat.reduceBEq, Nat.reduceAdd] at hF
  rw [hf7] at hF
  subst hF
  by_cases hlt : i < n
  · have x0i : (0 : Int) ≤ (i : Int) := by omega
    have x1i : (i : Int) < (n : Int) := by omega
    have q0i : decide ((i : Int) < (n : Int)) = true := decide_eq_true x1i
    go_wp2_with fail
    refine wp_loop_mrg [8, 9, 10, 17, 18, 19, 20, 21, 22, 23, 24, 25, 26, 27, 28, 29, 30, 31, 32, 33, 34, 35, 36, 37, 38, 39, 40, 41, 42, 43, 44, 45, 46, 47, 48, 49, 50, 51, 52, 53, 54, 55, 56, 57, 58, 59, 60, 61, 62, 63, 64, 65, 66, 67] (fun mm f ds W1 => ds = [] ∧ ∃ (k : Nat), f 8 = .int .i64 k ∧ mm = i - k ∧ k ≤ i ∧ Below W.heap.size W W1 ∧ Hid (∀ k' (ha : i < l.length) (hk : k' < l.length), k' < k → M.forbd ps (M.chOf l[i] (mv i)) (M.chOf l[k'] (mv k')) = false)) i ⟨rfl, 0, rfl, rfl, Nat.zero_le _, hB, Lib.hid (fun k _ _ h => absurd h (by omega))⟩ ?_
    intro c2' T2' hc2 hT2
    rintro mm f ds W1 ⟨rfl, k, hf8, rfl, hk, hB1, HK⟩
    replace hc2 := hc2.out
    subst hc2
    replace hT2 := hT2.out
    subst hT2
    generalize hF : mrgF _ 0 _ _ = F
    simp only [mrg_hit, mrg_miss, mrg_nil, Nat.reduceBEq, Nat.reduceAdd] at hF
    rw [hf8] at hF
    subst hF
    by_cases hltk : k < i
    · have x0k : (0 : Int) ≤ (k : Int) := by omega
      have x1k : (k : Int) < (i : Int) := by omega
      have q0k : decide ((k : Int) < (i : Int)) = true := decide_eq_true x1k
      have hkn : k < n := by omega
      have x2 : (k : Int) < (n : Int) := by omega
      obtain ⟨la, hla, hlb, a0, a1, a2, -⟩ := (HL.out W1 hB1).mv6 (show i < l.length by rw [HN.out]; exact hlt)
      obtain ⟨la', hla', hlb', b0, b1, b2, -⟩ := (HL.out W1 hB1).mv6 (show k < l.length by rw [HN.out]; exact hkn)
      obtain rfl : la = la' := by rw [hla] at hla'; exact Option.some.inj hla'
      have HLA := Lib.hid hla
      subst hla
      clear hla'
      go_wp2_with fail
      obtain ⟨am, ham, hamb, cm⟩ := (HM.out W1 hB1).one_at (k := i) (by rw [fnl_len, HN.out]; exact hlt)
      obtain ⟨am', ham', hamb', cn⟩ := (HM.out W1 hB1).one_at (k := k) (by rw [fnl_len, HN.out]; exact hkn)
      obtain rfl : am = am' := by rw [ham] at ham'; exact Option.some.inj ham'
      rw [fnl_at] at cm cn
      have HMA := Lib.hid ham
      subst ham
      clear ham'
      have HYES : Hid (M.forbd ps (M.chOf (l[i]'(by rw [HN.out]; exact hlt)) (mv i)) (M.chOf (l[k]'(by rw [HN.out]; exact hkn)) (mv k)) = true → ¬ M.free ps l mv) := Lib.hid (fun h hf => by
        rw [hf i k (by rw [HN.out]; exact hlt) (by rw [HN.out]; exact hkn) hltk] at h; cases h)
      have HNO : Hid (M.forbd ps (M.chOf (l[i]'(by rw [HN.out]; exact hlt)) (mv i)) (M.chOf (l[k]'(by rw [HN.out]; exact hkn)) (mv k)) = false → ∀ k' (ha : i < l.length) (hk : k' < l.length), k' < k + 1 → M.forbd ps (M.chOf l[i] (mv i)) (M.chOf l[k'] (mv k')) = false) := Lib.hid (fun h k' ha hk' h2 => by
        by_cases e : k' = k
        · subst e; exact h
        · exact HK.out k' ha hk' (by omega))
      clear HK
      have HF : Hid (∀ u, Below W1.heap.size W1 u → u.cell? ⟨(la.add (i * 6)).block, (la.add (i * 6)).off + 2, none⟩ = some (.int .i64 (l[i]'(by rw [HN.out]; exact hlt)).new) ∧ u.cell? ⟨(la.add (k * 6)).block, (la.add (k * 6)).off + 2, none⟩ = some (.int .i64 (l[k]'(by rw [HN.out]; exact hkn)).new) ∧ u.cell? (am.add i) = some (.bool (mv i)) ∧ u.cell? (am.add k) = some (.bool (mv k))) := Lib.hid (fun u hu => by
        have hub := after_ hB1 hu
        obtain ⟨lx, hlx, -, -, -, e2, -⟩ := (HL.out u hub).mv6 (show i < l.length by rw [HN.out]; exact hlt)
        obtain ⟨ly, hly, -, -, -, f2, -⟩ := (HL.out u hub).mv6 (show k < l.length by rw [HN.out]; exact hkn)
        obtain ⟨mx, hmx, -, g2⟩ := (HM.out u hub).one_at (k := i) (by rw [fnl_len, HN.out]; exact hlt)
        obtain ⟨my, hmy, -, h2⟩ := (HM.out u hub).one_at (k := k) (by rw [fnl_len, HN.out]; exact hkn)
        obtain rfl := Option.some.inj hlx
        obtain rfl := Option.some.inj hly
        obtain rfl := Option.some.inj hmx
        obtain rfl := Option.some.inj hmy
        rw [fnl_at] at g2 h2
        exact ⟨e2, f2, g2, h2⟩)
      generalize l[i]'(by rw [HN.out]; exact hlt) = mi at *
      generalize l[k]'(by rw [HN.out]; exact hkn) = mk at *
      obtain ⟨ri, hri⟩ : ∃ r, mv i = r := ⟨_, rfl⟩
      obtain ⟨rk, hrk⟩ : ∃ r, mv k = r := ⟨_, rfl⟩
      rw [hri] at HF HYES HNO
      rw [hrk] at HF HYES HNO
      have HRI := Lib.hid hri
      clear hri hrk cm cn
      refine free_reg7 x0i x1i x0k x2 hlb hlb' a0 a1 b0 b1 (by kernel_rfl) ?_
      rintro z22 z23 z24 z25 z26 z27 z28 z29 z30 z31 z32 z33 z34 z35 z36 z37 z38 z39 z40 z41 z42 z43 Y ba bb xa xb hab hba0 hbb0 hbD
      clear a0 a1 a2 b0 b1 b2
      obtain ⟨fa, fb, fm, fn⟩ := HF.out Y hbD
      cases ri with
      | false =>
        cases rk with
        | false =>
          obtain ⟨u0, u1⟩ := xa.c2
          obtain ⟨v0, v1⟩ := xb.c2
          obtain ⟨r, hr⟩ : ∃ r, M.forbd ps (M.chOf mi false) (M.chOf mk false) = r := ⟨_, rfl⟩
          rw [hr] at HYES HNO
          have kF : Calls Tryd.prog 10 #[.slice PA ps.length pc, chv ⟨mi.st, mi.old⟩, chv ⟨mk.st, mk.old⟩] Y fun e w' => e = .returned (.bool r) ∧ Below Y.heap.size Y w' := by rw [← hr]; exact forbidden_ok PA pc ps (M.chOf mi false) (M.chOf mk false) Y (HP.out Y (after_ hB1 hbD)) (by omega)
          clear hr
          go_wp2_with fail
          refine kF.mono ?_
          rintro e w9 ⟨rfl, hb9⟩
          clear kF
          cases r with
          | true =>
            have HF2 := Lib.hid (HYES.out rfl)
            clear HYES HNO
            go_wp2_with fail
            go_ret
            exact ⟨⟨false, rfl, ⟨fun h => (by cases h), fun h => absurd h HF2.out⟩⟩, after_ hB1 (after_ hbD hb9)⟩
          | false =>
            have HN2 : Hid (∀ k' (ha : i < l.length) (hk : k' < l.length), k' < k + 1 → M.forbd ps (M.chOf l[i] (mv i)) (M.chOf l[k'] (mv k')) = false) := Lib.hid (fun k' ha hk' h2 => by rw [HRI.out]; exact HNO.out rfl k' ha hk' h2)
            clear HYES HNO
            go_wp2_with fail
            exact ⟨_, rfl, rfl, i - (k + 1), by omega, by trivial, k + 1, rfl, rfl, hltk, after_ hB1 (after_ hbD hb9), HN2⟩
        | true =>
          obtain ⟨Z, hZ⟩ : ∃ Z, Y.setCell ⟨bb, 1, none⟩ (.int .i64 mk.new) = Z := ⟨_, rfl⟩
          have xbZ : Box Z (bb) #[.int .i64 mk.st, .int .i64 mk.new] 24 := by rw [← hZ]; exact xb.set 1 _
          have xaZ := xa.set_other (p := ⟨bb, 1, none⟩) (by dsimp only; omega) (.int .i64 mk.new)
          rw [hZ] at xaZ
          have hbZ : Below W1.heap.size W1 Z := by rw [← hZ]; exact hbD.setCell (p := ⟨bb, 1, none⟩) (by dsimp only; omega) _
          have fZ := xb.frozen 1
          obtain ⟨pZ0, pZ1⟩ := xb.c2
          obtain ⟨faz, fbz, fmz, fnz⟩ := HF.out Z hbZ
          obtain ⟨u0, u1⟩ := xaZ.c2
          obtain ⟨v0, v1⟩ := xbZ.c2
          obtain ⟨r, hr⟩ : ∃ r, M.forbd ps (M.chOf mi false) (M.chOf mk true) = r := ⟨_, rfl⟩
          rw [hr] at HYES HNO
          have kF : Calls Tryd.prog 10 #[.slice PA ps.length pc, chv ⟨mi.st, mi.old⟩, chv ⟨mk.st, mk.new⟩] Z fun e w' => e = .returned (.bool r) ∧ Below Z.heap.size Z w' := by rw [← hr]; exact forbidden_ok PA pc ps (M.chOf mi false) (M.chOf mk true) Z (HP.out Z (after_ hB1 hbZ)) (by omega)
          clear hr
          go_wp2_with fail
          refine kF.mono ?_
          rintro e w9 ⟨rfl, hb9⟩
          clear kF
          cases r with
          | true =>
            have HF2 := Lib.hid (HYES.out rfl)
            clear HYES HNO
            go_wp2_with fail
            go_ret
            exact ⟨⟨false, rfl, ⟨fun h => (by cases h), fun h => absurd h HF2.out⟩⟩, after_ hB1 (after_ hbZ hb9)⟩
          | false =>
            have HN2 : Hid (∀ k' (ha : i < l.length) (hk : k' < l.length), k' < k + 1 → M.forbd ps (M.chOf l[i] (mv i)) (M.chOf l[k'] (mv k')) = false) := Lib.hid (fun k' ha hk' h2 => by rw [HRI.out]; exact HNO.out rfl k' ha hk' h2)
            clear HYES HNO
            go_wp2_with fail
            exact ⟨_, rfl, rfl, i - (k + 1), by omega, by trivial, k + 1, rfl, rfl, hltk, after_ hB1 (after_ hbZ hb9), HN2⟩
      | true =>
        cases rk with
        | false =>
          obtain ⟨Z, hZ⟩ : ∃ Z, Y.setCell ⟨ba, 1, none⟩ (.int .i64 mi.new) = Z := ⟨_, rfl⟩
          have xaZ : Box Z (ba) #[.int .i64 mi.st, .int .i64 mi.new] 24 := by rw [← hZ]; exact xa.set 1 _
          have xbZ := xb.set_other (p := ⟨ba, 1, none⟩) (by dsimp only; omega) (.int .i64 mi.new)
          rw [hZ] at xbZ
          have hbZ : Below W1.heap.size W1 Z := by rw [← hZ]; exact hbD.setCell (p := ⟨ba, 1, none⟩) (by dsimp only; omega) _
          have fZ := xa.frozen 1
          obtain ⟨pZ0, pZ1⟩ := xa.c2
          obtain ⟨faz, fbz, fmz, fnz⟩ := HF.out Z hbZ
          obtain ⟨u0, u1⟩ := xaZ.c2
          obtain ⟨v0, v1⟩ := xbZ.c2
          obtain ⟨r, hr⟩ : ∃ r, M.forbd ps (M.chOf mi true) (M.chOf mk false) = r := ⟨_, rfl⟩
          rw [hr] at HYES HNO
          have kF : Calls Tryd.prog 10 #[.slice PA ps.length pc, chv ⟨mi.st, mi.new⟩, chv ⟨mk.st, mk.old⟩] Z fun e w' => e = .returned (.bool r) ∧ Below Z.heap.size Z w' := by rw [← hr]; exact forbidden_ok PA pc ps (M.chOf mi true) (M.chOf mk false) Z (HP.out Z (after_ hB1 hbZ)) (by omega)
          clear hr
          go_wp2_with fail
          refine kF.mono ?_
          rintro e w9 ⟨rfl, hb9⟩
          clear kF
          cases r with
          | true =>
            have HF2 := Lib.hid (HYES.out rfl)
            clear HYES HNO
            go_wp2_with fail
            go_ret
            exact ⟨⟨false, rfl, ⟨fun h => (by cases h), fun h => absurd h HF2.out⟩⟩, after_ hB1 (after_ hbZ hb9)⟩
          | false =>
            have HN2 : Hid (∀ k' (ha : i < l.length) (hk : k' < l.length), k' < k + 1 → M.forbd ps (M.chOf l[i] (mv i)) (M.chOf l[k'] (mv k')) = false) := Lib.hid (fun k' ha hk' h2 => by rw [HRI.out]; exact HNO.out rfl k' ha hk' h2)
            clear HYES HNO
            go_wp2_with fail
            exact ⟨_, rfl, rfl, i - (k + 1), by omega, by trivial, k + 1, rfl, rfl, hltk, after_ hB1 (after_ hbZ hb9), HN2⟩
        | true =>
          obtain ⟨Z, hZ⟩ : ∃ Z, Y.setCell ⟨ba, 1, none⟩ (.int .i64 mi.new) = Z := ⟨_, rfl⟩
          have xaZ : Box Z (ba) #[.int .i64 mi.st, .int .i64 mi.new] 24 := by rw [← hZ]; exact xa.set 1 _
          have xbZ := xb.set_other (p := ⟨ba, 1, none⟩) (by dsimp only; omega) (.int .i64 mi.new)
          rw [hZ] at xbZ
          have hbZ : Below W1.heap.size W1 Z := by rw [← hZ]; exact hbD.setCell (p := ⟨ba, 1, none⟩) (by dsimp only; omega) _
          have fZ := xa.frozen 1
          obtain ⟨pZ0, pZ1⟩ := xa.c2
          obtain ⟨faz, fbz, fmz, fnz⟩ := HF.out Z hbZ
          obtain ⟨T, hT⟩ : ∃ T, Z.setCell ⟨bb, 1, none⟩ (.int .i64 mk.new) = T := ⟨_, rfl⟩
          have xbT : Box T (bb) #[.int .i64 mk.st, .int .i64 mk.new] 24 := by rw [← hT]; exact xbZ.set 1 _
          have xaT := xaZ.set_other (p := ⟨bb, 1, none⟩) (by dsimp only; omega) (.int .i64 mk.new)
          rw [hT] at xaT
          have hbT : Below W1.heap.size W1 T := by rw [← hT]; exact hbZ.setCell (p := ⟨bb, 1, none⟩) (by dsimp only; omega) _
          have fT := xbZ.frozen 1
          obtain ⟨pT0, pT1⟩ := xbZ.c2
          obtain ⟨fat, fbt, fmt, fnt⟩ := HF.out T hbT
          obtain ⟨u0, u1⟩ := xaT.c2
          obtain ⟨v0, v1⟩ := xbT.c2
          obtain ⟨r, hr⟩ : ∃ r, M.forbd ps (M.chOf mi true) (M.chOf mk true) = r := ⟨_, rfl⟩
          rw [hr] at HYES HNO
          have kF : Calls Tryd.prog 10 #[.slice PA ps.length pc, chv ⟨mi.st, mi.new⟩, chv ⟨mk.st, mk.new⟩] T fun e w' => e = .returned (.bool r) ∧ Below T.heap.size T w' := by rw [← hr]; exact forbidden_ok PA pc ps (M.chOf mi true) (M.chOf mk true) T (HP.out T (after_ hB1 hbT)) (by omega)
          clear hr
          go_wp2_with fail
          refine kF.mono ?_
          rintro e w9 ⟨rfl, hb9⟩
          clear kF
          cases r with
          | true =>
            have HF2 := Lib.hid (HYES.out rfl)
            clear HYES HNO
            go_wp2_with fail
            go_ret
            exact ⟨⟨false, rfl, ⟨fun h => (by cases h), fun h => absurd h HF2.out⟩⟩, after_ hB1 (after_ hbT hb9)⟩
          | false =>
            have HN2 : Hid (∀ k' (ha : i < l.length) (hk : k' < l.length), k' < k + 1 → M.forbd ps (M.chOf l[i] (mv i)) (M.chOf l[k'] (mv k')) = false) := Lib.hid (fun k' ha hk' h2 => by rw [HRI.out]; exact HNO.out rfl k' ha hk' h2)
            clear HYES HNO
            go_wp2_with fail
            exact ⟨_, rfl, rfl, i - (k + 1), by omega, by trivial, k + 1, rfl, rfl, hltk, after_ hB1 (after_ hbT hb9), HN2⟩
    · obtain rfl : k = i := by omega
      have q0 : decide ((k : Int) < (k : Int)) = false := decide_eq_false (by omega)
      have HI2 : Hid (∀ a c (ha : a < l.length) (hk : c < l.length), a < k + 1 → c < a → M.forbd ps (M.chOf l[a] (mv a)) (M.chOf l[c] (mv c)) = false) := Lib.hid (fun a c ha hc h h2 => by
        by_cases e : a = k
        · subst e; exact HK.out c ha hc h2
        · exact HI.out a c ha hc (by omega) h2)
      clear HI HK
      go_wp2_with fail
      exact ⟨_, rfl, rfl, n - (k + 1), by omega, by trivial, k + 1, rfl, rfl, hlt, hB1, HI2⟩
  · obtain rfl : n = i := by omega
    have q0 : decide ((n : Int) < (n : Int)) = false := decide_eq_false (by omega)
    have HF : Hid (M.free ps l mv) := Lib.hid (fun a c ha hc h => HI.out a c ha hc (by rw [HN.out] at ha; exact ha) h)
    clear HI
    go_wp2_with fail
    go_ret
    exact ⟨⟨true, rfl, ⟨fun _ => HF.out, fun _ => rfl⟩⟩, hB⟩
end Go.Proofs.YtceobfigfmnacaaDoor
end

section
namespace Go.Proofs.YtceobfigfmnacaaDoor
open Go Go.RowKit
set_option maxRecDepth 100000
set_option maxHeartbeats 32000000 in
theorem steps_reg11t {Q : Exit → Act → World → Prop} {cd : Code} {dl : List Deferred} {Z0 Z3 Z4 Z5 Z6 Zb Zc Zd Ze Zf Zg Zh Zi Zj Zk Zl Zm Zn Zo Zp Zq Zr Zs Zt Zu Zv Zw Zx Zy Zz Z10 Z11 Z12 Z13 Z14 Z15 Z16 Z17 Z18 Z19 Z1a Z1b Z1c Z1d Z1e Z1f Z1g Z1h Z1i Z1j Z1k Z1l Z1m Z1n Z1o Z1p : Value} {la lo : Addr} {n lc no oc gm i k m : Nat} {w : World} (x4 : (0 : Int) ≤ (m : Int)) (x5 : (m : Int) < (n : Int)) (f0 : w.frozen? ⟨gm, m, none⟩ = false) (c0 : w.cell? ⟨gm, m, none⟩ = some (.bool true)) (hcd : (Tryd.f26.body.bind (regionOf 11)) = some cd)
  (hQ : ∀ (y35 y36 y37 y38 y39 y40 y41 y42 y43 y44 y45 y46 y47 y48 y49 y50 y51 y52 y53 y54 y55 y56 : Value) (wo : World) , wo = (w.setCell ⟨gm, m, none⟩ (.bool true)).drew → Q .normal ⟨#[Z0,.slice (some la) n lc,.slice (some lo) no oc,Z3,Z4,Z5,Z6,.slice (some ⟨gm, 0, none⟩) n n,.int .i64 (i : Nat),.int .i64 (k : Nat),.int .i64 (m : Nat),Zb,Zc,Zd,Ze,Zf,Zg,Zh,Zi,Zj,Zk,Zl,Zm,Zn,Zo,Zp,Zq,Zr,Zs,Zt,Zu,Zv,Zw,Zx,Zy,y35,y36,y37,y38,y39,y40,y41,y42,y43,y44,y45,y46,y47,y48,y49,y50,y51,y52,y53,y54,y55,y56,Z1l,Z1m,Z1n,Z1o,Z1p], dl⟩ wo) :
  cd.wp Tryd.prog Q ⟨#[Z0,.slice (some la) n lc,.slice (some lo) no oc,Z3,Z4,Z5,Z6,.slice (some ⟨gm, 0, none⟩) n n,.int .i64 (i : Nat),.int .i64 (k : Nat),.int .i64 (m : Nat),Zb,Zc,Zd,Ze,Zf,Zg,Zh,Zi,Zj,Zk,Zl,Zm,Zn,Zo,Zp,Zq,Zr,Zs,Zt,Zu,Zv,Zw,Zx,Zy,Zz,Z10,Z11,Z12,Z13,Z14,Z15,Z16,Z17,Z18,Z19,Z1a,Z1b,Z1c,Z1d,Z1e,Z1f,Z1g,Z1h,Z1i,Z1j,Z1k,Z1l,Z1m,Z1n,Z1o,Z1p], dl⟩ w := by
 rw [show (Tryd.f26.body.bind (regionOf 11)) = some (Code.region 11 _ true) from rfl] at hcd
 obtain rfl := Option.some.inj hcd
 clear hcd
 dsimp only at hQ ⊢
 have HQ := Lib.hid hQ
 clear hQ
 refine wp_region_noPanic ?_
 go_region
 all_goals exact NoPanic.normal (HQ.out _ _ _ _ _ _ _ _ _ _ _ _ _ _ _ _ _ _ _ _ _ _ _ rfl)
set_option maxHeartbeats 32000000 in
theorem steps_reg11f {Q : Exit → Act → World → Prop} {cd : Code} {dl : List Deferred} {Z0 Z3 Z4 Z5 Z6 Zb Zc Zd Ze Zf Zg Zh Zi Zj Zk Zl Zm Zn Zo Zp Zq Zr Zs Zt Zu Zv Zw Zx Zy Zz Z10 Z11 Z12 Z13 Z14 Z15 Z16 Z17 Z18 Z19 Z1a Z1b Z1c Z1d Z1e Z1f Z1g Z1h Z1i Z1j Z1k Z1l Z1m Z1n Z1o Z1p : Value} {la lo ls : Addr} {n lc no oc nk ck gm i k m : Nat} {w : World} {sm sx : Int} (x0 : (0 : Int) ≤ (i : Int)) (x1 : (i : Int) < (no : Int)) (x2 : (0 : Int) ≤ (k : Int)) (x3 : (k : Int) < (nk : Int)) (x4 : (0 : Int) ≤ (m : Int)) (x5 : (m : Int) < (n : Int)) (f0 : w.frozen? ⟨gm, m, none⟩ = false) (c0 : w.cell? ⟨gm, m, none⟩ = some (.bool false)) (a0 : w.cell? (la.add (m * 6)) = some (.int .i64 sm)) (b0 : w.cell? (lo.add i) = some (.slice (some ls) nk ck)) (d0 : w.cell? (ls.add k) = some (.int .i64 sx)) (r : Bool) (hr : (sm == sx) = r) (hcd : (Tryd.f26.body.bind (regionOf 11)) = some cd)
  (hQ : ∀ (y35 y36 y37 y38 y39 y40 y41 y42 y43 y44 y45 y46 y47 y48 y49 y50 y51 y52 y53 y54 y55 y56 : Value) (wo : World) , wo = (w.setCell ⟨gm, m, none⟩ (.bool r)).drew → Q .normal ⟨#[Z0,.slice (some la) n lc,.slice (some lo) no oc,Z3,Z4,Z5,Z6,.slice (some ⟨gm, 0, none⟩) n n,.int .i64 (i : Nat),.int .i64 (k : Nat),.int .i64 (m : Nat),Zb,Zc,Zd,Ze,Zf,Zg,Zh,Zi,Zj,Zk,Zl,Zm,Zn,Zo,Zp,Zq,Zr,Zs,Zt,Zu,Zv,Zw,Zx,Zy,y35,y36,y37,y38,y39,y40,y41,y42,y43,y44,y45,y46,y47,y48,y49,y50,y51,y52,y53,y54,y55,y56,Z1l,Z1m,Z1n,Z1o,Z1p], dl⟩ wo) :
  cd.wp Tryd.prog Q ⟨#[Z0,.slice (some la) n lc,.slice (some lo) no oc,Z3,Z4,Z5,Z6,.slice (some ⟨gm, 0, none⟩) n n,.int .i64 (i : Nat),.int .i64 (k : Nat),.int .i64 (m : Nat),Zb,Zc,Zd,Ze,Zf,Zg,Zh,Zi,Zj,Zk,Zl,Zm,Zn,Zo,Zp,Zq,Zr,Zs,Zt,Zu,Zv,Zw,Zx,Zy,Zz,Z10,Z11,Z12,Z13,Z14,Z15,Z16,Z17,Z18,Z19,Z1a,Z1b,Z1c,Z1d,Z1e,Z1f,Z1g,Z1h,Z1i,Z1j,Z1k,Z1l,Z1m,Z1n,Z1o,Z1p], dl⟩ w := by
 rw [show (Tryd.f26.body.bind (regionOf 11)) = some (Code.region 11 _ true) from rfl] at hcd
 obtain rfl := Option.some.inj hcd
 clear hcd
 dsimp only at hQ ⊢
 have HQ := Lib.hid hQ
 clear hQ
 refine wp_region_noPanic ?_
 go_region
 all_goals exact NoPanic.normal (HQ.out _ _ _ _ _ _ _ _ _ _ _ _ _ _ _ _ _ _ _ _ _ _ _ rfl)
end Go.Proofs.YtceobfigfmnacaaDoor
end
