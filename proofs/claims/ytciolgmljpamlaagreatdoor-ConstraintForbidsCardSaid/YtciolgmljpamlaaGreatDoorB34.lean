/- A bundle of texts: Co8, Co11. -/
import Derived.Test.YtciolgmljpamlaaGreatDoorB27
import Derived.Test.YtciolgmljpamlaaGreatDoorB08
import Derived.Test.YtciolgmljpamlaaGreatDoorB26
import Derived.Deep.RegionHeld3
import Derived.Deep.DeepCutAuto
/- Layer 16: Join. -/
section
namespace Go.Proofs.YtciolgmljpamlaaGreatDoor
open Go Go.RowKit
set_option maxRecDepth 100000

theorem alloc_below (w : World) (o : Obj) : Below w.heap.size w (w.alloc o) := (Below.refl _ _).alloc (Nat.le_refl _) o
/-- A call that returns constraints and an error number. -/
def RetR (w : World) (r : List P5 × List P5 × List P4) (er : Int) (e : Ending) (w' : World) : Prop :=
  ∃ XA xc YA yc ZA zc, e = .returned (.tuple #[ruv XA r.1.length xc YA r.2.1.length yc ZA r.2.2.length zc, .int .i64 er]) ∧ RW w' XA YA ZA r.1 r.2.1 r.2.2 ∧ (r.1.length ≤ xc ∧ r.2.1.length ≤ yc ∧ r.2.2.length ≤ zc) ∧ Below w.heap.size w w' ∧ (∀ ad, XA = some ad → w.heap.size ≤ ad.block) ∧ (∀ ad, YA = some ad → w.heap.size ≤ ad.block) ∧ ∀ ad, ZA = some ad → w.heap.size ≤ ad.block
theorem RetR.none {w w' : World} {er : Int} (hB : Below w.heap.size w w') : RetR w ([], [], []) er (.returned (.tuple #[ruv none 0 0 none 0 0 none 0 0, .int .i64 er])) w' :=
  ⟨_, _, _, _, _, _, rfl, ⟨Sl.nil_, Sl.nil_, Sl.nil_⟩, ⟨Nat.le_refl _, Nat.le_refl _, Nat.le_refl _⟩, hB, fun _ h => (by cases h), fun _ h => (by cases h), fun _ h => (by cases h)⟩
theorem RetR.eq {w w' : World} {r r' : (List P5 × List P5 × List P4) × Int} {e : Ending} (h : RetR w r.1 r.2 e w') (he : r' = r) : RetR w r'.1 r'.2 e w' := by rw [he]; exact h
theorem own_sliceC {α : Type} {size : Nat} {cell : α → Nat → Value} {w : World} {base : Nat} {e : TypeId} {v : Value} {n : Nat} {xs : List α} (hs : 0 < size) (h : w.ownsRow base e size v n (flat size cell xs)) :
    ∃ A c, v = .slice A xs.length c ∧ xs.length ≤ c ∧ Sl size cell w w.heap.size A xs := by
  have hn : n * size = xs.length * size := by rw [← h.1, flat_length]
  have hnl : n = xs.length := Nat.eq_of_mul_eq_mul_right hs hn
  subst hnl
  rcases h.2 with ⟨rfl, h0⟩ | ⟨g, cap, cur, rfl, _, _, hc, _⟩
  · refine ⟨none, 0, by rw [h0], by omega, ?_⟩
    have : xs = [] := List.eq_nil_of_length_eq_zero h0
    subst this
    exact Sl.nil_
  · exact ⟨_, cap, rfl, hc, Sl.of_own hs h⟩
theorem own_setFar {w : World} {base b i : Nat} {e : TypeId} {size : Nat} {v : Value} {n : Nat} {xs : List Value} (h : w.ownsRow base e size v n xs) (hne : some b ≠ v.ownBlock) (u : Value) : (w.setCell ⟨b, i, none⟩ u).ownsRow base e size v n xs :=
  World.ownsRow.kept h (row := some b) ⟨rfl, rfl, rfl, by simp, fun k _ hk => heap_setCell_other w ⟨b, i, none⟩ k u (fun e => hk (by simp [e]))⟩ (by
    cases hv : v.ownBlock
    · exact .inl rfl
    · right; intro h2; exact hne (by rw [hv]; exact h2.symm))
/-- Three rows of a call's own. -/
structure Ro3 (w : World) (base : Nat) (v1 v2 v3 : Value) (r : List P5 × List P5 × List P4) : Prop where
  p : w.ownsRow base 66 5 v1 r.1.length (flat 5 p5cell r.1)
  l : w.ownsRow base 68 5 v2 r.2.1.length (flat 5 p5cell r.2.1)
  c : w.ownsRow base 71 4 v3 r.2.2.length (flat 4 p4cell r.2.2)
theorem Ro3.below {w w' : World} {base : Nat} {v1 v2 v3 : Value} {r : List P5 × List P5 × List P4} (h : Ro3 w base v1 v2 v3 r) (hb : Below w.heap.size w w') : Ro3 w' base v1 v2 v3 r := ⟨own_below h.p hb, own_below h.l hb, own_below h.c hb⟩
theorem Ro3.base {w : World} {base base' : Nat} {v1 v2 v3 : Value} {r : List P5 × List P5 × List P4} (h : Ro3 w base v1 v2 v3 r) (hb : base' ≤ base) : Ro3 w base' v1 v2 v3 r := ⟨own_base h.p hb, own_base h.l hb, own_base h.c hb⟩
theorem Ro3.set {w : World} {base b i : Nat} {cs : Array Value} {v1 v2 v3 : Value} {r : List P5 × List P5 × List P4} (h : Ro3 w base v1 v2 v3 r) (hx : Box w b cs 30) (u : Value) : Ro3 (w.setCell ⟨b, i, none⟩ u) base v1 v2 v3 r :=
  ⟨own_setFar h.p (hx.ne_own (by decide) h.p) u, own_setFar h.l (hx.ne_own (by decide) h.l) u, own_setFar h.c (hx.ne_own (by decide) h.c) u⟩
theorem Ro3.out {w : World} {base : Nat} {v1 v2 v3 : Value} {r : List P5 × List P5 × List P4} (h : Ro3 w base v1 v2 v3 r) : ∃ XA xc YA yc ZA zc, v1 = .slice XA r.1.length xc ∧ v2 = .slice YA r.2.1.length yc ∧ v3 = .slice ZA r.2.2.length zc ∧ RW w XA YA ZA r.1 r.2.1 r.2.2 ∧ (r.1.length ≤ xc ∧ r.2.1.length ≤ yc ∧ r.2.2.length ≤ zc) := by
  obtain ⟨XA, xc, e1, h1, S1⟩ := own_sliceC (by decide) h.p
  obtain ⟨YA, yc, e2, h2, S2⟩ := own_sliceC (by decide) h.l
  obtain ⟨ZA, zc, e3, h3, S3⟩ := own_sliceC (by decide) h.c
  exact ⟨XA, xc, YA, yc, ZA, zc, e1, e2, e3, ⟨S1, S2, S3⟩, h1, h2, h3⟩
theorem own_farV {w : World} {base b : Nat} {e : TypeId} {size : Nat} {A : Option Addr} {n m c : Nat} {xs : List Value} (h : w.ownsRow base e size (.slice A m c) n xs) (hb : b ≤ base) : ∀ ad, A = some ad → b ≤ ad.block := fun ad ha => by
  rcases h.2 with ⟨e1, _⟩ | ⟨g, cap, cur, e1, hg, _⟩
  · injection e1 with e2; rw [e2] at ha; cases ha
  · injection e1 with e2; rw [e2] at ha; cases ha; exact Nat.le_trans hb hg
theorem Ro3.far {w : World} {base b : Nat} {A1 A2 A3 : Option Addr} {n1 n2 n3 c1 c2 c3 : Nat} {r : List P5 × List P5 × List P4} (h : Ro3 w base (.slice A1 n1 c1) (.slice A2 n2 c2) (.slice A3 n3 c3) r) (hb : b ≤ base) : (∀ ad, A1 = some ad → b ≤ ad.block) ∧ (∀ ad, A2 = some ad → b ≤ ad.block) ∧ ∀ ad, A3 = some ad → b ≤ ad.block :=
  ⟨own_farV h.p hb, own_farV h.l hb, own_farV h.c hb⟩
/-- A box of constraints, filled. -/
theorem Box.set3 {w : World} {b : Nat} {x y z u v t : Value} {ty : TypeId} (h : Box w b #[x, y, z] ty) : Box (((w.setCell ⟨b, 0, none⟩ u).setCell ⟨b, 1, none⟩ v).setCell ⟨b, 2, none⟩ t) b #[u, v, t] ty := by
  have := ((h.set 0 u).set 1 v).set 2 t
  simpa using this
theorem Ro3.set3 {w : World} {base b : Nat} {x y z u v t : Value} {v1 v2 v3 : Value} {r : List P5 × List P5 × List P4} (h : Ro3 w base v1 v2 v3 r) (hx : Box w b #[x, y, z] 30) : Ro3 (((w.setCell ⟨b, 0, none⟩ u).setCell ⟨b, 1, none⟩ v).setCell ⟨b, 2, none⟩ t) base v1 v2 v3 r :=
  ((h.set hx u).set (hx.set 0 u) v).set ((hx.set 0 u).set 1 v) t
theorem below_set3 {B : Nat} {w0 w : World} {b : Nat} {u v t : Value} (h : Below B w0 w) (hb : B ≤ b) : Below B w0 (((w.setCell ⟨b, 0, none⟩ u).setCell ⟨b, 1, none⟩ v).setCell ⟨b, 2, none⟩ t) :=
  ((h.setCell (p := ⟨b, 0, none⟩) hb u).setCell (p := ⟨b, 1, none⟩) hb v).setCell (p := ⟨b, 2, none⟩) hb t

set_option maxHeartbeats 32000000 in
theorem join_any (XA YA ZA XB YB ZB : Option Addr) (xc yc zc xd yd zd : Nat) (a1 a2 : List P5) (a3 : List P4) (b1 b2 : List P5) (b3 : List P4) (w : World) (ha : RW w XA YA ZA a1 a2 a3) (hb : RW w XB YB ZB b1 b2 b3)
    (hca : a1.length ≤ xc ∧ a2.length ≤ yc ∧ a3.length ≤ zc) (hcb : b1.length ≤ xd ∧ b2.length ≤ yd ∧ b3.length ≤ zd) (hla : a1.length ≤ 9223372036854775807 ∧ a2.length ≤ 9223372036854775807 ∧ a3.length ≤ 9223372036854775807) (hlb : b1.length ≤ 9223372036854775807 ∧ b2.length ≤ 9223372036854775807 ∧ b3.length ≤ 9223372036854775807) :
    Calls Tryz.prog 28 #[ruv XA a1.length xc YA a2.length yc ZA a3.length zc, ruv XB b1.length xd YB b2.length yd ZB b3.length zd] w (RetR w (M.joinR a1 a2 a3 b1 b2 b3).1 (M.joinR a1 a2 a3 b1 b2 b3).2) := by
  obtain ⟨V, HW, xa, xb, xr, hB, -⟩ := boxes3 w #[.slice XA a1.length xc, .slice YA a2.length yc, .slice ZA a3.length zc] 30 #[.slice XB b1.length xd, .slice YB b2.length yd, .slice ZB b3.length zd] 30 #[.slice none 0 0, .slice none 0 0, .slice none 0 0] 30
  have ra := ha.next hB
  have rb := hb.next hB
  obtain ⟨p0, p1, p2⟩ := xa.c3
  have kA := rvalid_any XA YA ZA xc yc zc a1 a2 a3 V ra hla.1 hla.2.1 hla.2.2
  have hV := HW.out
  go_enter Tryz.func28, Tryz.ntmps28
  go_wp2_with fail
  clear hV p0 p1 p2
  refine kA.mono ?_
  rintro e w1 ⟨rfl, hb1⟩
  clear kA
  cases hva : M.rvalid a1 a2 a3 with
  | false =>
    have HF : Hid (M.joinR a1 a2 a3 b1 b2 b3 = (([], [], []), 2)) := Lib.hid (by unfold M.joinR; rw [if_neg]; rintro ⟨h, _⟩; rw [hva] at h; cases h)
    replace xr := xr.below hb1
    have B1 := after_ hB hb1
    obtain ⟨r0, r1, r2⟩ := xr.c3
    have f0 := xr.frozen 0
    have f1 := xr.frozen 1
    have f2 := xr.frozen 2
    go_wp2_with fail
    obtain ⟨z0, z1, z2⟩ := (xr.set3 (u := .slice none 0 0) (v := .slice none 0 0) (t := .slice none 0 0)).c3
    refine bodyPost_ret (v := .tuple #[ruv none 0 0 none 0 0 none 0 0, .int .i64 2]) ?_ rfl (RetR.eq (r := (([], [], []), 2)) (RetR.none (below_set3 B1 (by omega))) HF.out)
    simp [results, Tryz.results28, go_sem, z0, z1, z2]
  | true =>
    replace xa := xa.below hb1
    replace xb := xb.below hb1
    replace xr := xr.below hb1
    replace ra := ra.next hb1
    replace rb := rb.next hb1
    have B1 := after_ hB hb1
    obtain ⟨p0, p1, p2⟩ := xb.c3
    have kB := rvalid_any XB YB ZB xd yd zd b1 b2 b3 w1 rb hlb.1 hlb.2.1 hlb.2.2
    go_wp2_with fail
    clear p0 p1 p2
    refine kB.mono ?_
    rintro e w2 ⟨rfl, hb2⟩
    clear kB
    replace xa := xa.below hb2
    replace xb := xb.below hb2
    replace xr := xr.below hb2
    replace ra := ra.next hb2
    replace rb := rb.next hb2
    replace B1 := after_ B1 hb2
    clear hb1 hb2 hB
    cases hvb : M.rvalid b1 b2 b3 with
    | false =>
      have HF : Hid (M.joinR a1 a2 a3 b1 b2 b3 = (([], [], []), 2)) := Lib.hid (by unfold M.joinR; rw [if_neg]; rintro ⟨_, h⟩; rw [hvb] at h; cases h)
      obtain ⟨r0, r1, r2⟩ := xr.c3
      have f0 := xr.frozen 0
      have f1 := xr.frozen 1
      have f2 := xr.frozen 2
      go_wp2_with fail
      obtain ⟨z0, z1, z2⟩ := (xr.set3 (u := .slice none 0 0) (v := .slice none 0 0) (t := .slice none 0 0)).c3
      refine bodyPost_ret (v := .tuple #[ruv none 0 0 none 0 0 none 0 0, .int .i64 2]) ?_ rfl (RetR.eq (r := (([], [], []), 2)) (RetR.none (below_set3 B1 (by omega))) HF.out)
      simp [results, Tryz.results28, go_sem, z0, z1, z2]
    | true =>
      have hrv := M.rvalid_and.1 hva
      have hrw := M.rvalid_and.1 hvb
      have n1 := (M.of_vl M.cmp5_ord hrv.1).1
      have n2 := (M.of_vl M.cmp5_ord hrv.2.1).1
      have n3 := (M.of_vl M.cmp4_ord hrv.2.2).1
      have n4 := (M.of_vl M.cmp5_ord hrw.1).1
      have n5 := (M.of_vl M.cmp5_ord hrw.2.1).1
      have n6 := (M.of_vl M.cmp4_ord hrw.2.2).1
      have HE : Hid (M.joinR a1 a2 a3 b1 b2 b3 = if 4096 < (M.mrg M.cmp5 a1 b1).length ∨ 1024 < (M.mrg M.cmp5 a2 b2).length ∨ 1024 < (M.mrg M.cmp4 a3 b3).length then (([], [], []), 7) else ((M.mrg M.cmp5 a1 b1, M.mrg M.cmp5 a2 b2, M.mrg M.cmp4 a3 b3), 0)) := Lib.hid (by unfold M.joinR; rw [if_pos ⟨hva, hvb⟩])
      clear hrv hrw hva hvb
      have k1 : Hid (∀ wx, Below w2.heap.size w2 wx → Calls Tryz.prog 82 #[.slice XA a1.length xc, .slice XB b1.length xd, .func (.func 41) #[] #[]] wx fun e w' => ∃ A c, e = .returned (.slice A (M.mrg M.cmp5 a1 b1).length c) ∧ w'.ownsRow wx.heap.size 66 5 (.slice A (M.mrg M.cmp5 a1 b1).length c) (M.mrg M.cmp5 a1 b1).length (flat 5 p5cell (M.mrg M.cmp5 a1 b1)) ∧ Below wx.heap.size wx w') := Lib.hid (fun wx hbx => (mergePairs_any XA XB xc xd a1 b1 wx ((ra.p.below hbx).more hbx.size) ((rb.p.below hbx).more hbx.size) hca.1 hcb.1 (by omega) (by omega)).mono fun e w' ⟨⟨v, he, ho⟩, hb⟩ => by
        obtain ⟨A, c, rfl, -, -⟩ := own_sliceC (by decide) ho
        exact ⟨A, c, he, ho, hb⟩)
      have k2 : Hid (∀ wx, Below w2.heap.size w2 wx → Calls Tryz.prog 83 #[.slice YA a2.length yc, .slice YB b2.length yd, .func (.func 44) #[] #[]] wx fun e w' => ∃ A c, e = .returned (.slice A (M.mrg M.cmp5 a2 b2).length c) ∧ w'.ownsRow wx.heap.size 68 5 (.slice A (M.mrg M.cmp5 a2 b2).length c) (M.mrg M.cmp5 a2 b2).length (flat 5 p5cell (M.mrg M.cmp5 a2 b2)) ∧ Below wx.heap.size wx w') := Lib.hid (fun wx hbx => (mergeLoads_any YA YB yc yd a2 b2 wx ((ra.l.below hbx).more hbx.size) ((rb.l.below hbx).more hbx.size) hca.2.1 hcb.2.1 (by omega) (by omega)).mono fun e w' ⟨⟨v, he, ho⟩, hb⟩ => by
        obtain ⟨A, c, rfl, -, -⟩ := own_sliceC (by decide) ho
        exact ⟨A, c, he, ho, hb⟩)
      have k3 : Hid (∀ wx, Below w2.heap.size w2 wx → Calls Tryz.prog 84 #[.slice ZA a3.length zc, .slice ZB b3.length zd, .func (.func 47) #[] #[]] wx fun e w' => ∃ A c, e = .returned (.slice A (M.mrg M.cmp4 a3 b3).length c) ∧ w'.ownsRow wx.heap.size 71 4 (.slice A (M.mrg M.cmp4 a3 b3).length c) (M.mrg M.cmp4 a3 b3).length (flat 4 p4cell (M.mrg M.cmp4 a3 b3)) ∧ Below wx.heap.size wx w') := Lib.hid (fun wx hbx => (mergeCaps_any ZA ZB zc zd a3 b3 wx ((ra.c.below hbx).more hbx.size) ((rb.c.below hbx).more hbx.size) hca.2.2 hcb.2.2 (by omega) (by omega)).mono fun e w' ⟨⟨v, he, ho⟩, hb⟩ => by
        obtain ⟨A, c, rfl, -, -⟩ := own_sliceC (by decide) ho
        exact ⟨A, c, he, ho, hb⟩)
      have hel : ∀ wx, Below w2.heap.size w2 wx → (wx.cell? ⟨w.heap.size, 0, none⟩ = some (.slice XA a1.length xc) ∧ wx.cell? ⟨w.heap.size, 1, none⟩ = some (.slice YA a2.length yc) ∧ wx.cell? ⟨w.heap.size, 2, none⟩ = some (.slice ZA a3.length zc)) ∧ (wx.cell? ⟨w.heap.size + 1, 0, none⟩ = some (.slice XB b1.length xd) ∧ wx.cell? ⟨w.heap.size + 1, 1, none⟩ = some (.slice YB b2.length yd) ∧ wx.cell? ⟨w.heap.size + 1, 2, none⟩ = some (.slice ZB b3.length zd)) := fun wx hbx => ⟨(xa.below hbx).c3, (xb.below hbx).c3⟩
      generalize M.mrg M.cmp5 a1 b1 = m1 at *
      generalize M.mrg M.cmp5 a2 b2 = m2 at *
      generalize M.mrg M.cmp4 a3 b3 = m3 at *
      go_upto_region 3 with fail
      go_cut [6] (fun v wx => ∃ wo b v1 v2 v3, wo = wx ∧ v = .pointer (some ⟨b, 0, none⟩) ∧ w2.heap.size ≤ b ∧ Box wo b #[v1, v2, v3] 30 ∧ Ro3 wo w2.heap.size v1 v2 v3 (m1, m2, m3) ∧ Below w2.heap.size w2 wo)
      case first =>
        have hc : Below w2.heap.size w2 w2.drew := (Below.refl _ _).drew
        have h0 := hel _ hc
        have h1 := hel _ (Below.refl _ _)
        have hq := hel
        go_region_held3 (fun wx => (wx.cell? ⟨w.heap.size, 0, none⟩ = some (.slice XA a1.length xc) ∧ wx.cell? ⟨w.heap.size, 1, none⟩ = some (.slice YA a2.length yc) ∧ wx.cell? ⟨w.heap.size, 2, none⟩ = some (.slice ZA a3.length zc)) ∧ (wx.cell? ⟨w.heap.size + 1, 0, none⟩ = some (.slice XB b1.length xd) ∧ wx.cell? ⟨w.heap.size + 1, 1, none⟩ = some (.slice YB b2.length yd) ∧ wx.cell? ⟨w.heap.size + 1, 2, none⟩ = some (.slice ZB b3.length zd)))
          (first | with_reducible exact h0 | with_reducible exact h1 | with_reducible exact hel _ hc | with_reducible exact hel _ (hc.alloc hc.size _) | with_reducible exact hel _ ((alloc_below w2 _).drew) | with_reducible exact hel _ (below_set3 hc hbl))
          (first
            | (go_at_call 82; (first | (refine (k1.out _ hc).mono ?_; rintro e wa ⟨A1, c1, rfl, o1, hba⟩; replace o1 := own_base o1 hc.size; (try replace o2 := own_below o2 hba); (try replace o3 := own_below o3 hba); (try (clear y0 y1 y2 g0 g1 g2; replace bx := bx.below hba; (obtain ⟨y0, y1, y2⟩ := bx.c3; have g0 := bx.frozen 0; have g1 := bx.frozen 1; have g2 := bx.frozen 2))); replace hc := hc.trans (hba.mono hc.size); clear hba) | (refine (k1.out _ (hc.alloc hc.size _)).mono ?_; rintro e wa ⟨A1, c1, rfl, o1, hba⟩; replace o1 := own_base o1 (hc.alloc hc.size _).size; (try replace o2 := own_below (o2.alloc _) hba); (try replace o3 := own_below (o3.alloc _) hba); have bx := (Box.new _ _ _).below hba; (try dsimp only [World.drew] at bx); (obtain ⟨y0, y1, y2⟩ := bx.c3; have g0 := bx.frozen 0; have g1 := bx.frozen 1; have g2 := bx.frozen 2); have hbl := hc.size; (try dsimp only [World.drew] at hbl); replace hc := (hc.alloc hc.size _).trans (hba.mono (hc.alloc hc.size _).size); clear hba)))
            | (go_at_call 83; (first | (refine (k2.out _ hc).mono ?_; rintro e wa ⟨A2, c2, rfl, o2, hba⟩; replace o2 := own_base o2 hc.size; (try replace o1 := own_below o1 hba); (try replace o3 := own_below o3 hba); (try (clear y0 y1 y2 g0 g1 g2; replace bx := bx.below hba; (obtain ⟨y0, y1, y2⟩ := bx.c3; have g0 := bx.frozen 0; have g1 := bx.frozen 1; have g2 := bx.frozen 2))); replace hc := hc.trans (hba.mono hc.size); clear hba) | (refine (k2.out _ (hc.alloc hc.size _)).mono ?_; rintro e wa ⟨A2, c2, rfl, o2, hba⟩; replace o2 := own_base o2 (hc.alloc hc.size _).size; (try replace o1 := own_below (o1.alloc _) hba); (try replace o3 := own_below (o3.alloc _) hba); have bx := (Box.new _ _ _).below hba; (try dsimp only [World.drew] at bx); (obtain ⟨y0, y1, y2⟩ := bx.c3; have g0 := bx.frozen 0; have g1 := bx.frozen 1; have g2 := bx.frozen 2); have hbl := hc.size; (try dsimp only [World.drew] at hbl); replace hc := (hc.alloc hc.size _).trans (hba.mono (hc.alloc hc.size _).size); clear hba)))
            | (go_at_call 84; (first | (refine (k3.out _ hc).mono ?_; rintro e wa ⟨A3, c3, rfl, o3, hba⟩; replace o3 := own_base o3 hc.size; (try replace o1 := own_below o1 hba); (try replace o2 := own_below o2 hba); (try (clear y0 y1 y2 g0 g1 g2; replace bx := bx.below hba; (obtain ⟨y0, y1, y2⟩ := bx.c3; have g0 := bx.frozen 0; have g1 := bx.frozen 1; have g2 := bx.frozen 2))); replace hc := hc.trans (hba.mono hc.size); clear hba) | (refine (k3.out _ (hc.alloc hc.size _)).mono ?_; rintro e wa ⟨A3, c3, rfl, o3, hba⟩; replace o3 := own_base o3 (hc.alloc hc.size _).size; (try replace o1 := own_below (o1.alloc _) hba); (try replace o2 := own_below (o2.alloc _) hba); have bx := (Box.new _ _ _).below hba; (try dsimp only [World.drew] at bx); (obtain ⟨y0, y1, y2⟩ := bx.c3; have g0 := bx.frozen 0; have g1 := bx.frozen 1; have g2 := bx.frozen 2); have hbl := hc.size; (try dsimp only [World.drew] at hbl); replace hc := (hc.alloc hc.size _).trans (hba.mono (hc.alloc hc.size _).size); clear hba))))
        all_goals
          have ro : Ro3 _ w2.heap.size _ _ _ (m1, m2, m3) := ⟨o1, o2, o3⟩
          go_wp2_with fail
          go_meet
          case rel =>
            first
            | exact ⟨_, _, _, _, _, rfl, rfl, hbl, bx.set3, ro.set3 bx, below_set3 hc hbl⟩
            | exact ⟨_, _, _, _, _, rfl, rfl, hc.size, Box.new _ _ _, ro.below (alloc_below _ _), hc.alloc hc.size _⟩
      case rest =>
        obtain ⟨wo, b, v1, v2, v3, rfl, rfl, hbl, bx, ro, hc⟩ := hcut
        obtain ⟨A1, d1, A2, d2, A3, d3, rfl, rfl, rfl, rw1, hcp⟩ := ro.out
        obtain ⟨y0, y1, y2⟩ := bx.c3
        have kF := full_any A1 A2 A3 d1 d2 d3 m1.length m2.length m3.length wo
        have xr1 := xr.below hc
        have B2 := after_ B1 hc
        have hne : w.heap.size + 2 < w2.heap.size := xr.lt
        by_cases hf : 4096 < m1.length ∨ 1024 < m2.length ∨ 1024 < m3.length
        · have HF : Hid (M.joinR a1 a2 a3 b1 b2 b3 = (([], [], []), 7)) := Lib.hid (by rw [HE.out, if_pos hf])
          rw [show M.full m1.length m2.length m3.length = true by unfold M.full; simpa [or_assoc] using hf] at kF
          go_wp2_with fail
          clear y0 y1 y2
          refine kF.mono ?_
          rintro e w3 ⟨rfl, hb3⟩
          have B3 := after_ B2 hb3
          replace xr1 := xr1.below hb3
          obtain ⟨r0, r1, r2⟩ := xr1.c3
          have f0 := xr1.frozen 0
          have f1 := xr1.frozen 1
          have f2 := xr1.frozen 2
          go_wp2_with fail
          obtain ⟨z0, z1, z2⟩ := (xr1.set3 (u := .slice none 0 0) (v := .slice none 0 0) (t := .slice none 0 0)).c3
          refine bodyPost_ret (v := .tuple #[ruv none 0 0 none 0 0 none 0 0, .int .i64 7]) ?_ rfl (RetR.eq (r := (([], [], []), 7)) (RetR.none (below_set3 B3 (by omega))) HF.out)
          simp [results, Tryz.results28, go_sem, z0, z1, z2]
        · have HF : Hid (M.joinR a1 a2 a3 b1 b2 b3 = ((m1, m2, m3), 0)) := Lib.hid (by rw [HE.out, if_neg hf])
          rw [show M.full m1.length m2.length m3.length = false by unfold M.full; simp only [Bool.or_eq_false_iff, decide_eq_false_iff_not]; omega] at kF
          clear hf
          go_wp2_with fail
          clear y0 y1 y2
          refine kF.mono ?_
          rintro e w3 ⟨rfl, hb3⟩
          have B3 := after_ B2 hb3
          replace xr1 := xr1.below hb3
          replace bx := bx.below hb3
          replace ro := ro.below hb3
          obtain ⟨r0, r1, r2⟩ := xr1.c3
          obtain ⟨y0, y1, y2⟩ := bx.c3
          have f0 := xr1.frozen 0
          have f1 := xr1.frozen 1
          have f2 := xr1.frozen 2
          go_wp2_with fail
          obtain ⟨z0, z1, z2⟩ := (xr1.set3 (u := .slice A1 m1.length d1) (v := .slice A2 m2.length d2) (t := .slice A3 m3.length d3)).c3
          have ro2 := ro.set3 (u := .slice A1 m1.length d1) (v := .slice A2 m2.length d2) (t := .slice A3 m3.length d3) xr1
          obtain ⟨A1', d1', A2', d2', A3', d3', e1, e2, e3, rw2, -⟩ := ro2.out
          cases e1; cases e2; cases e3
          refine bodyPost_ret (v := .tuple #[ruv A1 m1.length d1 A2 m2.length d2 A3 m3.length d3, .int .i64 0]) ?_ rfl (RetR.eq (r := ((m1, m2, m3), 0)) ⟨A1, d1, A2, d2, A3, d3, rfl, rw2, hcp, below_set3 B3 (by omega), ro2.far (by omega)⟩ HF.out)
          simp [results, Tryz.results28, go_sem, z0, z1, z2]
end Go.Proofs.YtciolgmljpamlaaGreatDoor
end

/- The reference of layer 16: Same and Small. -/
section
namespace Go.Proofs.YtciolgmljpamlaaGreatDoor
open Go Go.RowKit
set_option maxRecDepth 100000

theorem take_snoc16 {α : Type} {xs : List α} {k : Nat} (h : k < xs.length) : xs.take (k + 1) = xs.take k ++ [xs[k]] := by
  rw [List.take_succ_eq_append_getElem h]
theorem differ16 {α : Type} {xs ys : List α} {k : Nat} (h : k < xs.length) (h2 : k < ys.length) (hne : xs[k] ≠ ys[k]) : xs ≠ ys := fun e => by subst e; exact hne rfl
set_option maxHeartbeats 16000000 in
theorem same16_any (XA YA ZA XB YB ZB : Option Addr) (xc yc zc xd yd zd : Nat) (a1 a2 : List P5) (a3 : List P4) (b1 b2 : List P5) (b3 : List P4) (w : World) (ha : RW w XA YA ZA a1 a2 a3) (hb : RW w XB YB ZB b1 b2 b3) (hl : a1.length ≤ 9223372036854775806 ∧ a2.length ≤ 9223372036854775806 ∧ a3.length ≤ 9223372036854775806) :
    Calls Tryz.prog 26 #[ruv XA a1.length xc YA a2.length yc ZA a3.length zc, ruv XB b1.length xd YB b2.length yd ZB b3.length zd] w fun e w' => e = .returned (.bool (decide (a1 = b1 ∧ a2 = b2 ∧ a3 = b3))) ∧ Below w.heap.size w w' := by
  obtain ⟨V, HW, xa, xb, hB, -⟩ := boxes2 w #[.slice XA a1.length xc, .slice YA a2.length yc, .slice ZA a3.length zc] 30 #[.slice XB b1.length xd, .slice YB b2.length yd, .slice ZB b3.length zd] 30
  have ra := ha.next hB
  have rb := hb.next hB
  obtain ⟨l1, l2, l3⟩ := hl
  obtain ⟨p0, p1, p2⟩ := xa.c3
  obtain ⟨q0, q1, q2⟩ := xb.c3
  obtain ⟨r, hr⟩ : ∃ r, decide (a1 = b1 ∧ a2 = b2 ∧ a3 = b3) = r := ⟨_, rfl⟩
  have HNO : Hid (¬ (a1 = b1 ∧ a2 = b2 ∧ a3 = b3) → false = r) := Lib.hid (fun h => by rw [← hr]; exact (decide_eq_false h).symm)
  have HYES : Hid ((a1 = b1 ∧ a2 = b2 ∧ a3 = b3) → true = r) := Lib.hid (fun h => by rw [← hr]; exact (decide_eq_true h).symm)
  rw [hr]
  clear hr
  have hV := HW.out
  by_cases e1 : a1.length = b1.length
  case neg =>
    have HF := Lib.hid (HNO.out (fun h => e1 (by rw [h.1])))
    have n1 : ((a1.length : Int) != (b1.length : Int)) = true := by simp; omega
    clear e1
    go_enter Tryz.func26, Tryz.ntmps26
    go_wp2_with fail
    go_ret
    exact ⟨ret_bool HF.out, hB⟩
  have n1 : ((a1.length : Int) != (b1.length : Int)) = false := by simp [e1]
  have HE1 := Lib.hid e1
  clear e1
  by_cases e2 : a2.length = b2.length
  case neg =>
    have HF := Lib.hid (HNO.out (fun h => e2 (by rw [h.2.1])))
    have n2 : ((a2.length : Int) != (b2.length : Int)) = true := by simp; omega
    clear e2
    go_enter Tryz.func26, Tryz.ntmps26
    go_wp2_with fail
    go_ret
    exact ⟨ret_bool HF.out, hB⟩
  have n2 : ((a2.length : Int) != (b2.length : Int)) = false := by simp [e2]
  have HE2 := Lib.hid e2
  clear e2
  by_cases e3 : a3.length = b3.length
  case neg =>
    have HF := Lib.hid (HNO.out (fun h => e3 (by rw [h.2.2])))
    have n3 : ((a3.length : Int) != (b3.length : Int)) = true := by simp; omega
    clear e3
    go_enter Tryz.func26, Tryz.ntmps26
    go_wp2_with fail
    go_ret
    exact ⟨ret_bool HF.out, hB⟩
  have n3 : ((a3.length : Int) != (b3.length : Int)) = false := by simp [e3]
  have HE3 := Lib.hid e3
  clear e3
  go_enter Tryz.func26, Tryz.ntmps26
  go_wp2_with fail
  clear hV p0 p1 p2 q0 q1 q2
  go_loopw [5] (fun i wr => ∃ k : Nat, k ≤ a1.length ∧ i = .int .i64 k ∧ Below V.heap.size V wr ∧ Hid (a1.take k = b1.take k)) (fun i _ => a1.length - (intOf i).toNat)
  case atStart => exact ⟨0, Nat.zero_le _, rfl, Below.refl _ _, Lib.hid (by simp)⟩
  case round =>
    obtain ⟨k, hk, rfl, hBv, HT⟩ := hrel
    obtain ⟨p0, p1, p2⟩ := (xa.below hBv).c3
    obtain ⟨q0, q1, q2⟩ := (xb.below hBv).c3
    by_cases hlt : k < a1.length
    case pos =>
      have hlt2 : k < b1.length := by have := HE1.out; omega
      obtain ⟨la, rfl, hla, x0, hx⟩ := (ra.p.below hBv).sp (by decide) hlt
      obtain ⟨lb, rfl, hlb, y0, hy⟩ := (rb.p.below hBv).sp (by decide) hlt2
      have x1 := hx 1 (by decide) (by decide)
      have y1 := hy 1 (by decide) (by decide)
      have x2 := hx 2 (by decide) (by decide)
      have y2 := hy 2 (by decide) (by decide)
      have x3 := hx 3 (by decide) (by decide)
      have y3 := hy 3 (by decide) (by decide)
      have x4 := hx 4 (by decide) (by decide)
      have y4 := hy 4 (by decide) (by decide)
      have HX := Lib.hid (take_snoc16 hlt)
      have HY := Lib.hid (take_snoc16 hlt2)
      have HDF := Lib.hid (differ16 hlt hlt2)
      clear hx hy
      have sla := Nat.lt_of_lt_of_le hla hBv.size
      have slb := Nat.lt_of_lt_of_le hlb hBv.size
      have lxa := (xa.below hBv).lt
      have lxb := (xb.below hBv).lt
      generalize a1[k] = x at *
      generalize b1[k] = y at *
      obtain ⟨u0, u1, u2, u3, u4⟩ := x
      obtain ⟨v0, v1, v2, v3, v4⟩ := y
      simp only [p5cell] at x0 y0 x1 y1 x2 y2 x3 y3 x4 y4
      have g0 : (0 : Int) ≤ (k : Int) := by omega
      have g1 : (k : Int) < (a1.length : Int) := by omega
      have g2 : (k : Int) < (b1.length : Int) := by omega
      skip
      by_cases h0 : u0 = v0
      case neg =>
        have HF := Lib.hid (HNO.out (fun h => HDF.out (fun e => h0 (by injection e)) h.1))
        go_wp2_with fail
        go_quiet (fail)
        have B5 := below_drewN hBv
        go_wp2_with fail
        go_ret
        exact ⟨ret_bool HF.out, after_ hB (B5 _)⟩
      subst h0
      by_cases h1 : u1 = v1
      case neg =>
        have HF := Lib.hid (HNO.out (fun h => HDF.out (fun e => h1 (by injection e)) h.1))
        go_wp2_with fail
        go_quiet (fail)
        have B5 := below_drewN hBv
        go_wp2_with fail
        go_ret
        exact ⟨ret_bool HF.out, after_ hB (B5 _)⟩
      subst h1
      by_cases h2 : u2 = v2
      case neg =>
        have HF := Lib.hid (HNO.out (fun h => HDF.out (fun e => h2 (by injection e)) h.1))
        go_wp2_with fail
        go_quiet (fail)
        have B5 := below_drewN hBv
        go_wp2_with fail
        go_ret
        exact ⟨ret_bool HF.out, after_ hB (B5 _)⟩
      subst h2
      by_cases h3 : u3 = v3
      case neg =>
        have HF := Lib.hid (HNO.out (fun h => HDF.out (fun e => h3 (by injection e)) h.1))
        go_wp2_with fail
        go_quiet (fail)
        have B5 := below_drewN hBv
        go_wp2_with fail
        go_ret
        exact ⟨ret_bool HF.out, after_ hB (B5 _)⟩
      subst h3
      by_cases h4 : u4 = v4
      case neg =>
        have HF := Lib.hid (HNO.out (fun h => HDF.out (fun e => h4 (by injection e)) h.1))
        go_wp2_with fail
        go_quiet (fail)
        have B5 := below_drewN hBv
        go_wp2_with fail
        go_ret
        exact ⟨ret_bool HF.out, after_ hB (B5 _)⟩
      subst h4
      go_wp2_with fail
      go_quiet (fail)
      have B5 := below_drewN hBv
      go_wp2_with fail
      go_roundw
      case rel => exact ⟨k + 1, hlt, by go_num, B5 _, Lib.hid (by rw [HX.out, HY.out, HT.out])⟩
      case measure => simp [intOf]; omega
    case neg =>
      have HK1 : Hid (a1 = b1) := Lib.hid (by have h := HT.out; have h2 := HE1.out; rwa [List.take_of_length_le (by omega), List.take_of_length_le (by omega)] at h)
      clear HT
      go_wp2_with fail
      clear p0 p1 p2 q0 q1 q2 hlt hk
      go_loopw [6] (fun i wr => ∃ k : Nat, k ≤ a2.length ∧ i = .int .i64 k ∧ Below V.heap.size V wr ∧ Hid (a2.take k = b2.take k)) (fun i _ => a2.length - (intOf i).toNat)
      case atStart => exact ⟨0, Nat.zero_le _, rfl, hBv, Lib.hid (by simp)⟩
      case round =>
        clear hBv
        obtain ⟨k, hk, rfl, hBv, HT⟩ := hrel
        obtain ⟨p0, p1, p2⟩ := (xa.below hBv).c3
        obtain ⟨q0, q1, q2⟩ := (xb.below hBv).c3
        by_cases hlt : k < a2.length
        case pos =>
          have hlt2 : k < b2.length := by have := HE2.out; omega
          obtain ⟨la, rfl, hla, x0, hx⟩ := (ra.l.below hBv).sp (by decide) hlt
          obtain ⟨lb, rfl, hlb, y0, hy⟩ := (rb.l.below hBv).sp (by decide) hlt2
          have x1 := hx 1 (by decide) (by decide)
          have y1 := hy 1 (by decide) (by decide)
          have x2 := hx 2 (by decide) (by decide)
          have y2 := hy 2 (by decide) (by decide)
          have x3 := hx 3 (by decide) (by decide)
          have y3 := hy 3 (by decide) (by decide)
          have x4 := hx 4 (by decide) (by decide)
          have y4 := hy 4 (by decide) (by decide)
          have HX := Lib.hid (take_snoc16 hlt)
          have HY := Lib.hid (take_snoc16 hlt2)
          have HDF := Lib.hid (differ16 hlt hlt2)
          clear hx hy
          have sla := Nat.lt_of_lt_of_le hla hBv.size
          have slb := Nat.lt_of_lt_of_le hlb hBv.size
          have lxa := (xa.below hBv).lt
          have lxb := (xb.below hBv).lt
          generalize a2[k] = x at *
          generalize b2[k] = y at *
          obtain ⟨u0, u1, u2, u3, u4⟩ := x
          obtain ⟨v0, v1, v2, v3, v4⟩ := y
          simp only [p5cell] at x0 y0 x1 y1 x2 y2 x3 y3 x4 y4
          have g0 : (0 : Int) ≤ (k : Int) := by omega
          have g1 : (k : Int) < (a2.length : Int) := by omega
          have g2 : (k : Int) < (b2.length : Int) := by omega
          skip
          by_cases h0 : u0 = v0
          case neg =>
            have HF := Lib.hid (HNO.out (fun h => HDF.out (fun e => h0 (by injection e)) h.2.1))
            go_wp2_with fail
            go_quiet (fail)
            have B5 := below_drewN hBv
            go_wp2_with fail
            go_ret
            exact ⟨ret_bool HF.out, after_ hB (B5 _)⟩
          subst h0
          by_cases h1 : u1 = v1
          case neg =>
            have HF := Lib.hid (HNO.out (fun h => HDF.out (fun e => h1 (by injection e)) h.2.1))
            go_wp2_with fail
            go_quiet (fail)
            have B5 := below_drewN hBv
            go_wp2_with fail
            go_ret
            exact ⟨ret_bool HF.out, after_ hB (B5 _)⟩
          subst h1
          by_cases h2 : u2 = v2
          case neg =>
            have HF := Lib.hid (HNO.out (fun h => HDF.out (fun e => h2 (by injection e)) h.2.1))
            go_wp2_with fail
            go_quiet (fail)
            have B5 := below_drewN hBv
            go_wp2_with fail
            go_ret
            exact ⟨ret_bool HF.out, after_ hB (B5 _)⟩
          subst h2
          by_cases h3 : u3 = v3
          case neg =>
            have HF := Lib.hid (HNO.out (fun h => HDF.out (fun e => h3 (by injection e)) h.2.1))
            go_wp2_with fail
            go_quiet (fail)
            have B5 := below_drewN hBv
            go_wp2_with fail
            go_ret
            exact ⟨ret_bool HF.out, after_ hB (B5 _)⟩
          subst h3
          by_cases h4 : u4 = v4
          case neg =>
            have HF := Lib.hid (HNO.out (fun h => HDF.out (fun e => h4 (by injection e)) h.2.1))
            go_wp2_with fail
            go_quiet (fail)
            have B5 := below_drewN hBv
            go_wp2_with fail
            go_ret
            exact ⟨ret_bool HF.out, after_ hB (B5 _)⟩
          subst h4
          go_wp2_with fail
          go_quiet (fail)
          have B5 := below_drewN hBv
          go_wp2_with fail
          go_roundw
          case rel => exact ⟨k + 1, hlt, by go_num, B5 _, Lib.hid (by rw [HX.out, HY.out, HT.out])⟩
          case measure => simp [intOf]; omega
        case neg =>
          have HK2 : Hid (a2 = b2) := Lib.hid (by have h := HT.out; have h2 := HE2.out; rwa [List.take_of_length_le (by omega), List.take_of_length_le (by omega)] at h)
          clear HT
          go_wp2_with fail
          clear p0 p1 p2 q0 q1 q2 hlt hk
          go_loopw [7] (fun i wr => ∃ k : Nat, k ≤ a3.length ∧ i = .int .i64 k ∧ Below V.heap.size V wr ∧ Hid (a3.take k = b3.take k)) (fun i _ => a3.length - (intOf i).toNat)
          case atStart => exact ⟨0, Nat.zero_le _, rfl, hBv, Lib.hid (by simp)⟩
          case round =>
            clear hBv
            obtain ⟨k, hk, rfl, hBv, HT⟩ := hrel
            obtain ⟨p0, p1, p2⟩ := (xa.below hBv).c3
            obtain ⟨q0, q1, q2⟩ := (xb.below hBv).c3
            by_cases hlt : k < a3.length
            case pos =>
              have hlt2 : k < b3.length := by have := HE3.out; omega
              obtain ⟨la, rfl, hla, x0, hx⟩ := (ra.c.below hBv).sp (by decide) hlt
              obtain ⟨lb, rfl, hlb, y0, hy⟩ := (rb.c.below hBv).sp (by decide) hlt2
              have x1 := hx 1 (by decide) (by decide)
              have y1 := hy 1 (by decide) (by decide)
              have x2 := hx 2 (by decide) (by decide)
              have y2 := hy 2 (by decide) (by decide)
              have x3 := hx 3 (by decide) (by decide)
              have y3 := hy 3 (by decide) (by decide)
              have HX := Lib.hid (take_snoc16 hlt)
              have HY := Lib.hid (take_snoc16 hlt2)
              have HDF := Lib.hid (differ16 hlt hlt2)
              clear hx hy
              have sla := Nat.lt_of_lt_of_le hla hBv.size
              have slb := Nat.lt_of_lt_of_le hlb hBv.size
              have lxa := (xa.below hBv).lt
              have lxb := (xb.below hBv).lt
              generalize a3[k] = x at *
              generalize b3[k] = y at *
              obtain ⟨u0, u1, u2, u3⟩ := x
              obtain ⟨v0, v1, v2, v3⟩ := y
              simp only [p4cell] at x0 y0 x1 y1 x2 y2 x3 y3
              have g0 : (0 : Int) ≤ (k : Int) := by omega
              have g1 : (k : Int) < (a3.length : Int) := by omega
              have g2 : (k : Int) < (b3.length : Int) := by omega
              skip
              by_cases h0 : u0 = v0
              case neg =>
                have HF := Lib.hid (HNO.out (fun h => HDF.out (fun e => h0 (by injection e)) h.2.2))
                go_wp2_with fail
                go_quiet (fail)
                have B5 := below_drewN hBv
                go_wp2_with fail
                go_ret
                exact ⟨ret_bool HF.out, after_ hB (B5 _)⟩
              subst h0
              by_cases h1 : u1 = v1
              case neg =>
                have HF := Lib.hid (HNO.out (fun h => HDF.out (fun e => h1 (by injection e)) h.2.2))
                go_wp2_with fail
                go_quiet (fail)
                have B5 := below_drewN hBv
                go_wp2_with fail
                go_ret
                exact ⟨ret_bool HF.out, after_ hB (B5 _)⟩
              subst h1
              by_cases h2 : u2 = v2
              case neg =>
                have HF := Lib.hid (HNO.out (fun h => HDF.out (fun e => h2 (by injection e)) h.2.2))
                go_wp2_with fail
                go_quiet (fail)
                have B5 := below_drewN hBv
                go_wp2_with fail
                go_ret
                exact ⟨ret_bool HF.out, after_ hB (B5 _)⟩
              subst h2
              by_cases h3 : u3 = v3
              case neg =>
                have HF := Lib.hid (HNO.out (fun h => HDF.out (fun e => h3 (by injection e)) h.2.2))
                go_wp2_with fail
                go_quiet (fail)
                have B5 := below_drewN hBv
                go_wp2_with fail
                go_ret
                exact ⟨ret_bool HF.out, after_ hB (B5 _)⟩
              subst h3
              go_wp2_with fail
              go_quiet (fail)
              have B5 := below_drewN hBv
              go_wp2_with fail
              go_roundw
              case rel => exact ⟨k + 1, hlt, by go_num, B5 _, Lib.hid (by rw [HX.out, HY.out, HT.out])⟩
              case measure => simp [intOf]; omega
            case neg =>
              have HK3 : Hid (a3 = b3) := Lib.hid (by have h := HT.out; have h2 := HE3.out; rwa [List.take_of_length_le (by omega), List.take_of_length_le (by omega)] at h)
              clear HT
              go_wp2_with fail
              go_ret
              exact ⟨ret_bool (HYES.out ⟨HK1.out, HK2.out, HK3.out⟩), after_ hB hBv⟩
end Go.Proofs.YtciolgmljpamlaaGreatDoor
end
