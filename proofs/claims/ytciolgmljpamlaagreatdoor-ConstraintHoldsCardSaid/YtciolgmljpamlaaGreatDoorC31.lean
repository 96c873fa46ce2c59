/- A bundle of texts: Co8, Co11, Rf8a. -/
import Derived.Test.YtciolgmljpamlaaGreatDoorC25
import Derived.Test.YtciolgmljpamlaaGreatDoorC08
import Derived.Test.YtciolgmljpamlaaGreatDoorC24
import Derived.Deep.RegionHeld3
import Derived.Deep.DeepCutAuto
import Derived.Test.YtciolgmljpamlaaGreatDoorC27
import Derived.Test.YtciolgmljpamlaaGreatDoorC05
import Derived.Test.YtciolgmljpamlaaGreatDoorC01
section
namespace Go.Proofs.YtciolgmljpamlaaGreatDoor
open Go Go.RowKit
set_option maxRecDepth 100000
theorem alloc_below (w : World) (o : Obj) : Below w.heap.size w (w.alloc o) := (Below.refl _ _).alloc (Nat.le_refl _) o
def RetR (w : World) (r : List P5 × List P5 × List P4) (er : Int) (e : Ending) (w' : World) : Prop :=
  ∃ XA xc YA yc ZA zc, e = .returned (.tuple #[ruv XA r.1.length xc YA r.2.1.length yc ZA r.2.2.length zc, .int .i64 er]) ∧ RW w' XA YA ZA r.1 r.2.1 r.2.2 ∧ (r.1.length ≤ xc ∧ r.2.1.length ≤ yc ∧ r.2.2.length ≤ zc) ∧ Below w.heap.size w w' ∧ (∀ ad, XA = some ad → w.heap.size ≤ ad.block) ∧ (∀ ad, YA = some ad → w.heap.size ≤ ad.block) ∧ ∀ ad, ZA = some ad → w.heap.size ≤ ad.block
theorem RetR.none {w w' : World} {er : Int} (hB : Below w.heap.size w w') : RetR w ([], [], []) er (.returned (.tuple #[ruv none 0 0 none 0 0 none 0 0, .int .i64 er])) w' :=
  ⟨_, _, _, _, _, _, rfl, ⟨Sl.nil_, Sl.nil_, Sl.nil_⟩, ⟨Nat.le_refl _, Nat.le_refl _, Nat.le_refl _⟩, hB, fun _ h => (by cases h), fun _ h => (by cases h), fun _ h => (by cases h)⟩
theorem RetR.eq {w w' : World} {r r' : (List P5 × List P5 × List P4) × Int} {e : Ending} (h : RetR w r.1 r.2 e w') (he : r' = r) : RetR w r'.1 r'.2 e w' := by rw [he]; exact h
theorem own_sliceC {α : Type} {size : Nat} {cell : α → Nat → Value} {w : World} {base : Nat} {e : TypeId} {v : Value} {n : Nat} {xs : List α} (hs : 0 < size) (h : w.ownsRow base e size v n (flat size cell xs)) :
    ∃ A c, v = .slice A xs.length c ∧ xs.length ≤ c ∧ Sl size cell w w.heap.size A xs := by
  have hn : n * size = xs.length * size := by rw [← h.1, flat_length]
  have hnl : n = xs.length := Nat.eq_of_mul_eq_mul_right hs hn
  subst hnl
  rcases h.2 with ⟨rfl, h0⟩ | ⟨g, cap, cur, rfl, _, _, hc, _⟩
  · refine ⟨none, 0, by rw [h0], by omega, ?_⟩
    have : xs = [] := List.eq_nil_of_length_eq_zero h0
    subst this
    exact Sl.nil_
  · exact ⟨_, cap, rfl, hc, Sl.of_own hs h⟩
theorem own_setFar {w : World} {base b i : Nat} {e : TypeId} {size : Nat} {v : Value} {n : Nat} {xs : List Value} (h : w.ownsRow base e size v n xs) (hne : some b ≠ v.ownBlock) (u : Value) : (w.setCell ⟨b, i, none⟩ u).ownsRow base e size v n xs :=
  World.ownsRow.kept h (row := some b) ⟨rfl, rfl, rfl, by simp, fun k _ hk => heap_setCell_other w ⟨b, i, none⟩ k u (fun e => hk (by simp [e]))⟩ (by
    cases hv : v.ownBlock
    · exact .inl rfl
    · right; intro h2; exact hne (by rw [hv]; exact h2.symm))
structure Ro3 (w : World) (base : Nat) (v1 v2 v3 : Value) (r : List P5 × List P5 × List P4) : Prop where
  p : w.ownsRow base 66 5 v1 r.1.length (flat 5 p5cell r.1)
  l : w.ownsRow base 68 5 v2 r.2.1.length (flat 5 p5cell r.2.1)
  c : w.ownsRow base 71 4 v3 r.2.2.length (flat 4 p4cell r.2.2)
theorem Ro3.below {w w' : World} {base : Nat} {v1 v2 v3 : Value} {r : List P5 × List P5 × List P4} (h : Ro3 w base v1 v2 v3 r) (hb : Below w.heap.size w w') : Ro3 w' base v1 v2 v3 r := ⟨own_below h.p hb, own_below h.l hb, own_below h.c hb⟩
theorem Ro3.base {w : World} {base base' : Nat} {v1 v2 v3 : Value} {r : List P5 × List P5 × List P4} (h : Ro3 w base v1 v2 v3 r) (hb : base' ≤ base) : Ro3 w base' v1 v2 v3 r := ⟨own_base h.p hb, own_base h.l hb, own_base h.c hb⟩
theorem Ro3.set {w : World} {base b i : Nat} {cs : Array Value} {v1 v2 v3 : Value} {r : List P5 × List P5 × List P4} (h : Ro3 w base v1 v2 v3 r) (hx : Box w b cs 30) (u : Value) : Ro3 (w.setCell ⟨b, i, none⟩ u) base v1 v2 v3 r :=
  ⟨own_setFar h.p (hx.ne_own (by decide) h.p) u, own_setFar h.l (hx.ne_own (by decide) h.l) u, own_setFar h.c (hx.ne_own (by decide) h.c) u⟩
theorem Ro3.out {w : World} {base : Nat} {v1 v2 v3 : Value} {r : List P5 × List P5 × List P4} (h : Ro3 w base v1 v2 v3 r) : ∃ XA xc YA yc ZA zc, v1 = .slice XA r.1.length xc ∧ v2 = .slice YA r.2.1.length yc ∧ v3 = .slice ZA r.2.2.length zc ∧ RW w XA YA ZA r.1 r.2.1 r.2.2 ∧ (r.1.length ≤ xc ∧ r.2.1.length ≤ yc ∧ r.2.2.length ≤ zc) := by
  obtain ⟨XA, xc, e1, h1, S1⟩ := own_sliceC (by decide) h.p
  obtain ⟨YA, yc, e2, h2, S2⟩ := own_sliceC (by decide) h.l
  obtain ⟨ZA, zc, e3, h3, S3⟩ := own_sliceC (by decide) h.c
  exact ⟨XA, xc, YA, yc, ZA, zc, e1, e2, e3, ⟨S1, S2, S3⟩, h1, h2, h3⟩
theorem own_farV {w : World} {base b : Nat} {e : TypeId} {size : Nat} {A : Option Addr} {n m c : Nat} {xs : List Value} (h : w.ownsRow base e size (.slice A m c) n xs) (hb : b ≤ base) : ∀ ad, A = some ad → b ≤ ad.block := fun ad ha => by
  rcases h.2 with ⟨e1, _⟩ | ⟨g, cap, cur, e1, hg, _⟩
  · injection e1 with e2; rw [e2] at ha; cases ha
  · injection e1 with e2; rw [e2] at ha; cases ha; exact Nat.le_trans hb hg
theorem Ro3.far {w : World} {base b : Nat} {A1 A2 A3 : Option Addr} {n1 n2 n3 c1 c2 c3 : Nat} {r : List P5 × List P5 × List P4} (h : Ro3 w base (.slice A1 n1 c1) (.slice A2 n2 c2) (.slice A3 n3 c3) r) (hb : b ≤ base) : (∀ ad, A1 = some ad → b ≤ ad.block) ∧ (∀ ad, A2 = some ad → b ≤ ad.block) ∧ ∀ ad, A3 = some ad → b ≤ ad.block :=
  ⟨own_farV h.p hb, own_farV h.l hb, own_farV h.c hb⟩
theorem Box.set3 {w : World} {b : Nat} {x y z u v t : Value} {ty : TypeId} (h : Box w b #[x, y, z] ty) : Box (((w.setCell ⟨b, 0, none⟩ u).setCell ⟨b, 1, none⟩ v).setCell ⟨b, 2, none⟩ t) b #[u, v, t] ty := by
  have := ((h.set 0 u).set 1 v).set 2 t
  simpa using this
theorem Ro3.set3 {w : World} {base b : Nat} {x y z u v t : Value} {v1 v2 v3 : Value} {r : List P5 × List P5 × List P4} (h : Ro3 w base v1 v2 v3 r) (hx : Box w b #[x, y, z] 30) : Ro3 (((w.setCell ⟨b, 0, none⟩ u).setCell ⟨b, 1, none⟩ v).setCell ⟨b, 2, none⟩ t) base v1 v2 v3 r :=
  ((h.set hx u).set (hx.set 0 u) v).set ((hx.set 0 u).set 1 v) t
theorem below_set3 {B : Nat} {w0 w : World} {b : Nat} {u v t : Value} (h : Below B w0 w) (hb : B ≤ b) : Below B w0 (((w.setCell ⟨b, 0, none⟩ u).setCell ⟨b, 1, none⟩ v).setCell ⟨b, 2, none⟩ t) :=
  ((h.setCell (p := ⟨b, 0, none⟩) hb u).setCell (p := ⟨b, 1, none⟩) hb v).setCell (p := ⟨b, 2, none⟩) hb t
set_option maxHeartbeats 32000000 in
theorem join_any (XA YA ZA XB YB ZB : Option Addr) (xc yc zc xd yd zd : Nat) (a1 a2 : List P5) (a3 : List P4) (b1 b2 : List P5) (b3 : List P4) (w : World) (ha : RW w XA YA ZA a1 a2 a3) (hb : RW w XB YB ZB b1 b2 b3)
    (hca : a1.length ≤ xc ∧ a2.length ≤ yc ∧ a3.length ≤ zc) (hcb : b1.length ≤ xd ∧ b2.length ≤ yd ∧ b3.length ≤ zd) (hla : a1.length ≤ 9223372036854775807 ∧ a2.length ≤ 9223372036854775807 ∧ a3.length ≤ 9223372036854775807) (hlb : b1.length ≤ 9223372036854775807 ∧ b2.length ≤ 9223372036854775807 ∧ b3.length ≤ 9223372036854775807) :
    Calls Tryz.prog 28 #[ruv XA a1.length xc YA a2.length yc ZA a3.length zc, ruv XB b1.length xd YB b2.length yd ZB b3.length zd] w (RetR w (M.joinR a1 a2 a3 b1 b2 b3).1 (M.joinR a1 a2 a3 b1 b2 b3).2) := by
  obtain ⟨V, HW, xa, xb, xr, hB, -⟩ := boxes3 w #[.slice XA a1.length xc, .slice YA a2.length yc, .slice ZA a3.length zc] 30 #[.slice XB b1.length xd, .slice YB b2.length yd, .slice ZB b3.length zd] 30 #[.slice none 0 0, .slice none 0 0, .slice none 0 0] 30
  have ra := ha.next hB
  have rb := hb.next hB
  obtain ⟨p0, p1, p2⟩ := xa.c3
  have kA := rvalid_any XA YA ZA xc yc zc a1 a2 a3 V ra hla.1 hla.2.1 hla.2.2
  have hV := HW.out
  go_enter Tryz.func28, Tryz.ntmps28
  go_wp2_with fail
  clear hV p0 p1 p2
  refine kA.mono ?_
  rintro e w1 ⟨rfl, hb1⟩
  clear kA
  cases hva : M.rvalid a1 a2 a3 with
  | false =>
    have HF : Hid (M.joinR a1 a2 a3 b1 b2 b3 = (([], [], []), 2)) := Lib.hid (by unfold M.joinR; rw [if_neg]; rintro ⟨h, _⟩; rw [hva] at h; cases h)
    replace xr := xr.below hb1
    have B1 := after_ hB hb1
    obtain ⟨r0, r1, r2⟩ := xr.c3
    have f0 := xr.frozen 0
    have f1 := xr.frozen 1
    have f2 := xr.frozen 2
    go_wp2_with fail
    obtain ⟨z0, z1, z2⟩ := (xr.set3 (u := .slice none 0 0) (v := .slice none 0 0) (t := .slice none 0 0)).c3
    refine bodyPost_ret (v := .tuple #[ruv none 0 0 none 0 0 none 0 0, .int .i64 2]) ?_ rfl (RetR.eq (r := (([], [], []), 2)) (RetR.none (below_set3 B1 (by omega))) HF.out)
    simp [results, Tryz.results28, go_sem, z0, z1, z2]
  | true =>
    replace xa := xa.below hb1
    replace xb := xb.below hb1
    replace xr := xr.below hb1
    replace ra := ra.next hb1
    replace rb := rb.next hb1
    have B1 := after_ hB hb1
    obtain ⟨p0, p1, p2⟩ := xb.c3
    have kB := rvalid_any XB YB ZB xd yd zd b1 b2 b3 w1 rb hlb.1 hlb.2.1 hlb.2.2
    go_wp2_with fail
    clear p0 p1 p2
    refine kB.mono ?_
    rintro e w2 ⟨rfl, hb2⟩
    clear kB
    replace xa := xa.below hb2
    replace xb := xb.below hb2
    replace xr := xr.below hb2
    replace ra := ra.next hb2
    replace rb := rb.next hb2
    replace B1 := after_ B1 hb2
    clear hb1 hb2 hB
    cases hvb : M.rvalid b1 b2 b3 with
    | false =>
      have HF : Hid (M.joinR a1 a2 a3 b1 b2 b3 = (([], [], []), 2)) := Lib.hid (by unfold M.joinR; rw [if_neg]; rintro ⟨_, h⟩; rw [hvb] at h; cases h)
      obtain ⟨r0, r1, r2⟩ := xr.c3
      have f0 := xr.frozen 0
      have f1 := xr.frozen 1
      have f2 := xr.frozen 2
      go_wp2_with fail
      obtain ⟨z0, z1, z2⟩ := (xr.set3 (u := .slice none 0 0) (v := .slice none 0 0) (t := .slice none 0 0)).c3
      refine bodyPost_ret (v := .tuple #[ruv none 0 0 none 0 0 none 0 0, .int .i64 2]) ?_ rfl (RetR.eq (r := (([], [], []), 2)) (RetR.none (below_set3 B1 (by omega))) HF.out)
      simp [results, Tryz.results28, go_sem, z0, z1, z2]
    | true =>
      have hrv := M.rvalid_and.1 hva
      have hrw := M.rvalid_and.1 hvb
      have n1 := (M.of_vl M.cmp5_ord hrv.1).1
      have n2 := (M.of_vl M.cmp5_ord hrv.2.1).1
      have n3 := (M.of_vl M.cmp4_ord hrv.2.2).1
      have n4 := (M.of_vl M.cmp5_ord hrw.1).1
      have n5 := (M.of_vl M.cmp5_ord hrw.2.1).1
      have n6 := (M.of_vl M.cmp4_ord hrw.2.2).1
      have HE : Hid (M.joinR a1 a2 a3 b1 b2 b3 = if 4096 < (M.mrg M.cmp5 a1 b1).length ∨ 1024 < (M.mrg M.cmp5 a2 b2).length ∨ 1024 < (M.mrg M.cmp4 a3 b3).length then (([], [], []), 7) else ((M.mrg M.cmp5 a1 b1, M.mrg M.cmp5 a2 b2, M.mrg M.cmp4 a3 b3), 0)) := Lib.hid (by unfold M.joinR; rw [if_pos ⟨hva, hvb⟩])
      clear hrv hrw hva hvb
      have k1 : Hid (∀ wx, Below w2.heap.size w2 wx → Calls Tryz.prog 82 #[.slice XA a1.length xc, .slice XB b1.length xd, .func (.func 41) #[] #[]] wx fun e w' => ∃ A c, e = .returned (.slice A (M.mrg M.cmp5 a1 b1).length c) ∧ w'.ownsRow wx.heap.size 66 5 (.slice A (M.mrg M.cmp5 a1 b1).length c) (M.mrg M.cmp5 a1 b1).length (flat 5 p5cell (M.mrg M.cmp5 a1 b1)) ∧ Below wx.heap.size wx w') := Lib.hid (fun wx hbx => (mergePairs_any XA XB xc xd a1 b1 wx ((ra.p.below hbx).more hbx.size) ((rb.p.below hbx).more hbx.size) hca.1 hcb.1 (by omega) (by omega)).mono fun e w' ⟨⟨v, he, ho⟩, hb⟩ => by
        obtain ⟨A, c, rfl, -, -⟩ := own_sliceC (by decide) ho
        exact ⟨A, c, he, ho, hb⟩)
      have k2 : Hid (∀ wx, Below w2.heap.size w2 wx → Calls Tryz.prog 83 #[.slice YA a2.length yc, .slice YB b2.length yd, .func (.func 44) #[] #[]] wx fun e w' => ∃ A c, e = .returned (.slice A (M.mrg M.cmp5 a2 b2).length c) ∧ w'.ownsRow wx.heap.size 68 5 (.slice A (M.mrg M.cmp5 a2 b2).length c) (M.mrg M.cmp5 a2 b2).length (flat 5 p5cell (M.mrg M.cmp5 a2 b2)) ∧ Below wx.heap.size wx w') := Lib.hid (fun wx hbx => (mergeLoads_any YA YB yc yd a2 b2 wx ((ra.l.below hbx).more hbx.size) ((rb.l.below hbx).more hbx.size) hca.2.1 hcb.2.1 (by omega) (by omega)).mono fun e w' ⟨⟨v, he, ho⟩, hb⟩ => by
        obtain ⟨A, c, rfl, -, -⟩ := own_sliceC (by decide) ho
        exact ⟨A, c, he, ho, hb⟩)
      have k3 : Hid (∀ wx, Below w2.heap.size w2 wx → Calls Tryz.prog 84 #[.slice ZA a3.length zc, .slice ZB b3.length zd, .func (.func 47) #[] #[]] wx fun e w' => ∃ A c, e = .returned (.slice A (M.mrg M.cmp4 a3 b3).length c) ∧ w'.ownsRow wx.heap.size 71 4 (.slice A (M.mrg M.cmp4 a3 b3).length c) (M.mrg M.cmp4 a3 b3).length (flat 4 p4cell (M.mrg M.cmp4 a3 b3)) ∧ Below wx.heap.size wx w') := Lib.hid (fun wx hbx => (mergeCaps_any ZA ZB zc zd a3 b3 wx ((ra.c.below hbx).more hbx.size) ((rb.c.below hbx).more hbx.size) hca.2.2 hcb.2.2 (by omega) (by omega)).mono fun e w' ⟨⟨v, he, ho⟩, hb⟩ => by
        obtain ⟨A, c, rfl, -, -⟩ := own_sliceC (by decide) ho
        exact ⟨A, c, he, ho, hb⟩)
      have hel : ∀ wx, Below w2.heap.size w2 wx → (wx.cell? ⟨w.heap.size, 0, none⟩ = some (.slice XA a1.length xc) ∧ wx.cell? ⟨w.heap.size, 1, none⟩ = some (.slice YA a2.length yc) ∧ wx.cell? ⟨w.heap.size, 2, none⟩ = some (.slice ZA a3.length zc)) ∧ (wx.cell? ⟨w.heap.size + 1, 0, none⟩ = some (.slice XB b1.length xd) ∧ wx.cell? ⟨w.heap.size + 1, 1, none⟩ = some (.slice YB b2.length yd) ∧ wx.cell? ⟨w.heap.size + 1, 2, none⟩ = some (.slice ZB b3.length zd)) := fun wx hbx => ⟨(xa.below hbx).c3, (xb.below hbx).c3⟩
      generalize M.mrg M.cmp5 a1 b1 = m1 at *
      generalize M.mrg M.cmp5 a2 b2 = m2 at *
      generalize M.mrg M.cmp4 a3 b3 = m3 at *
      go_upto_region 3 with fail
      go_cut [6] (fun v wx => ∃ wo b v1 v2 v3, wo = wx ∧ v = .pointer (some ⟨b, 0, none⟩) ∧ w2.heap.size ≤ b ∧ Box wo b #[v1, v2, v3] 30 ∧ Ro3 wo w2.heap.size v1 v2 v3 (m1, m2, m3) ∧ Below w2.heap.size w2 wo)
      case first =>
        have hc : Below w2.heap.size w2 w2.drew := (Below.refl _ _).drew
        have h0 := hel _ hc
        have h1 := hel _ (Below.refl _ _)
        have hq := hel
        go_region_held3 (fun wx => (wx.cell? ⟨w.heap.size, 0, none⟩ = some (.slice XA a1.length xc) ∧ wx.cell? ⟨w.heap.size, 1, none⟩ = some (.slice YA a2.length yc) ∧ wx.cell? ⟨w.heap.size, 2, none⟩ = some (.slice ZA a3.length zc)) ∧ (wx.cell? ⟨w.heap.size + 1, 0, none⟩ = some (.slice XB b1.length xd) ∧ wx.cell? ⟨w.heap.size + 1, 1, none⟩ = some (.slice YB b2.length yd) ∧ wx.cell? ⟨w.heap.size + 1, 2, none⟩ = some (.slice ZB b3.length zd)))
          (first | with_reducible exact h0 | with_reducible exact h1 | with_reducible exact hel _ hc | with_reducible exact hel _ (hc.alloc hc.size _) | with_reducible exact hel _ ((alloc_below w2 _).drew) | with_reducible exact hel _ (below_set3 hc hbl))
          (first
            | (go_at_call 82; (first | (refine (k1.out _ hc).mono ?_; rintro e wa ⟨A1, c1, rfl, o1, hba⟩; replace o1 := own_base o1 hc.size; (try replace o2 := own_below o2 hba); (try replace o3 := own_below o3 hba); (try (clear y0 y1 y2 g0 g1 g2; replace bx := bx.below hba; (obtain ⟨y0, y1, y2⟩ := bx.c3; have g0 := bx.frozen 0; have g1 := bx.frozen 1; have g2 := bx.frozen 2))); replace hc := hc.trans (hba.mono hc.size); clear hba) | (refine (k1.out _ (hc.alloc hc.size _)).mono ?_; rintro e wa ⟨A1, c1, rfl, o1, hba⟩; replace o1 := own_base o1 (hc.alloc hc.size _).size; (try replace o2 := own_below (o2.alloc _) hba); (try replace o3 := own_below (o3.alloc _) hba); have bx := (Box.new _ _ _).below hba; (try dsimp only [World.drew] at bx); (obtain ⟨y0, y1, y2⟩ := bx.c3; have g0 := bx.frozen 0; have g1 := bx.frozen 1; have g2 := bx.frozen 2); have hbl := hc.size; (try dsimp only [World.drew] at hbl); replace hc := (hc.alloc hc.size _).trans (hba.mono (hc.alloc hc.size _).size); clear hba)))
            | (go_at_call 83; (first | (refine (k2.out _ hc).mono ?_; rintro e wa ⟨A2, c2, rfl, o2, hba⟩; replace o2 := own_base o2 hc.size; (try replace o1 := own_below o1 hba); (try replace o3 := own_below o3 hba); (try (clear y0 y1 y2 g0 g1 g2; replace bx := bx.below hba; (obtain ⟨y0, y1, y2⟩ := bx.c3; have g0 := bx.frozen 0; have g1 := bx.frozen 1; have g2 := bx.frozen 2))); replace hc := hc.trans (hba.mono hc.size); clear hba) | (refine (k2.out _ (hc.alloc hc.size _)).mono ?_; rintro e wa ⟨A2, c2, rfl, o2, hba⟩; replace o2 := own_base o2 (hc.alloc hc.size _).size; (try replace o1 := own_below (o1.alloc _) hba); (try replace o3 := own_below (o3.alloc _) hba); have bx := (Box.new _ _ _).below hba; (try dsimp only [World.drew] at bx); (obtain ⟨y0, y1, y2⟩ := bx.c3; have g0 := bx.frozen 0; have g1 := bx.frozen 1; have g2 := bx.frozen 2); have hbl := hc.size; (try dsimp only [World.drew] at hbl); replace hc := (hc.alloc hc.size _).trans (hba.mono (hc.alloc hc.size _).size); clear hba)))
            | (go_at_call 84; (first | (refine (k3.out _ hc).mono ?_; rintro e wa ⟨A3, c3, rfl, o3, hba⟩; replace o3 := own_base o3 hc.size; (try replace o1 := own_below o1 hba); (try replace o2 := own_below o2 hba); (try (clear y0 y1 y2 g0 g1 g2; replace bx := bx.below hba; (obtain ⟨y0, y1, y2⟩ := bx.c3; have g0 := bx.frozen 0; have g1 := bx.frozen 1; have g2 := bx.frozen 2))); replace hc := hc.trans (hba.mono hc.size); clear hba) | (refine (k3.out _ (hc.alloc hc.size _)).mono ?_; rintro e wa ⟨A3, c3, rfl, o3, hba⟩; replace o3 := own_base o3 (hc.alloc hc.size _).size; (try replace o1 := own_below (o1.alloc _) hba); (try replace o2 := own_below (o2.alloc _) hba); have bx := (Box.new _ _ _).below hba; (try dsimp only [World.drew] at bx); (obtain ⟨y0, y1, y2⟩ := bx.c3; have g0 := bx.frozen 0; have g1 := bx.frozen 1; have g2 := bx.frozen 2); have hbl := hc.size; (try dsimp only [World.drew] at hbl); replace hc := (hc.alloc hc.size _).trans (hba.mono (hc.alloc hc.size _).size); clear hba))))
        all_goals
          have ro : Ro3 _ w2.heap.size _ _ _ (m1, m2, m3) := ⟨o1, o2, o3⟩
          go_wp2_with fail
          go_meet
          case rel =>
            first
            | exact ⟨_, _, _, _, _, rfl, rfl, hbl, bx.set3, ro.set3 bx, below_set3 hc hbl⟩
            | exact ⟨_, _, _, _, _, rfl, rfl, hc.size, Box.new _ _ _, ro.below (alloc_below _ _), hc.alloc hc.size _⟩
      case rest =>
        obtain ⟨wo, b, v1, v2, v3, rfl, rfl, hbl, bx, ro, hc⟩ := hcut
        obtain ⟨A1, d1, A2, d2, A3, d3, rfl, rfl, rfl, rw1, hcp⟩ := ro.out
        obtain ⟨y0, y1, y2⟩ := bx.c3
        have kF := full_any A1 A2 A3 d1 d2 d3 m1.length m2.length m3.length wo
        have xr1 := xr.below hc
        have B2 := after_ B1 hc
        have hne : w.heap.size + 2 < w2.heap.size := xr.lt
        by_cases hf : 4096 < m1.length ∨ 1024 < m2.length ∨ 1024 < m3.length
        · have HF : Hid (M.joinR a1 a2 a3 b1 b2 b3 = (([], [], []), 7)) := Lib.hid (by rw [HE.out, if_pos hf])
          rw [show M.full m1.length m2.length m3.length = true by unfold M.full; simpa [or_assoc] using hf] at kF
          go_wp2_with fail
          clear y0 y1 y2
          refine kF.mono ?_
          rintro e w3 ⟨rfl, hb3⟩
          have B3 := after_ B2 hb3
          replace xr1 := xr1.below hb3
          obtain ⟨r0, r1, r2⟩ := xr1.c3
          have f0 := xr1.frozen 0
          have f1 := xr1.frozen 1
          have f2 := xr1.frozen 2
          go_wp2_with fail
          obtain ⟨z0, z1, z2⟩ := (xr1.set3 (u := .slice none 0 0) (v := .slice none 0 0) (t := .slice none 0 0)).c3
          refine bodyPost_ret (v := .tuple #[ruv none 0 0 none 0 0 none 0 0, .int .i64 7]) ?_ rfl (RetR.eq (r := (([], [], []), 7)) (RetR.none (below_set3 B3 (by omega))) HF.out)
          simp [results, Tryz.results28, go_sem, z0, z1, z2]
        · have HF : Hid (M.joinR a1 a2 a3 b1 b2 b3 = ((m1, m2, m3), 0)) := Lib.hid (by rw [HE.out, if_neg hf])
          rw [show M.full m1.length m2.length m3.length = false by unfold M.full; simp only [Bool.or_eq_false_iff, decide_eq_false_iff_not]; omega] at kF
          clear hf
          go_wp2_with fail
          clear y0 y1 y2
          refine kF.mono ?_
          rintro e w3 ⟨rfl, hb3⟩
          have B3 := after_ B2 hb3
          replace xr1 := xr1.below hb3
          replace bx := bx.below hb3
          replace ro := ro.below hb3
          obtain ⟨r0, r1, r2⟩ := xr1.c3
          obtain ⟨y0, y1, y2⟩ := bx.c3
          have f0 := xr1.frozen 0
          have f1 := xr1.frozen 1
          have f2 := xr1.frozen 2
          go_wp2_with fail
          obtain ⟨z0, z1, z2⟩ := (xr1.set3 (u := .slice A1 m1.length d1) (v := .slice A2 m2.length d2) (t := .slice A3 m3.length d3)).c3
          have ro2 := ro.set3 (u := .slice A1 m1.length d1) (v := .slice A2 m2.length d2) (t := .slice A3 m3.length d3) xr1
          obtain ⟨A1', d1', A2', d2', A3', d3', e1, e2, e3, rw2, -⟩ := ro2.out
          cases e1; cases e2; cases e3
          refine bodyPost_ret (v := .tuple #[ruv A1 m1.length d1 A2 m2.length d2 A3 m3.length d3, .int .i64 0]) ?_ rfl (RetR.eq (r := ((m1, m2, m3), 0)) ⟨A1, d1, A2, d2, A3, d3, rfl, rw2, hcp, below_set3 B3 (by omega), ro2.far (by omega)⟩ HF.out)
          simp [results, Tryz.results28, go_sem, z0, z1, z2]
end Go.Proofs.YtciolgmljpamlaaGreatDoor
end

section
namespace Go.Proofs.YtciolgmljpamlaaGreatDoor
open Go Go.RowKit
set_option maxRecDepth 100000
theorem take_snoc16 {α : Type} {xs : List α} {k : Nat} (h : k < xs.length) : xs.take (k + 1) = xs.take k ++ [xs[k]] := by
 rw [List.take_succ_eq_append_getElem h]
theorem differ16 {α : Type} {xs ys : List α} {k : Nat} (h : k < xs.length) (h2 : k < ys.length) (hne : xs[k] ≠ ys[k]) : xs ≠ ys := fun e => by subst e; exact hne rfl
set_option maxHeartbeats 16000000 in
theorem same16_any (XA YA ZA XB YB ZB : Option Addr) (xc yc zc xd yd zd : Nat) (a1 a2 : List P5) (a3 : List P4) (b1 b2 : List P5) (b3 : List P4) (w : World) (ha : RW w XA YA ZA a1 a2 a3) (hb : RW w XB YB ZB b1 b2 b3) (hl : a1.length ≤ 9223372036854775806 ∧ a2.length ≤ 9223372036854775806 ∧ a3.length ≤ 9223372036854775806) :
  Calls Tryz.prog 26 #[ruv XA a1.length xc YA a2.length yc ZA a3.length zc, ruv XB b1.length xd YB b2.length yd ZB b3.length zd] w fun e w' => e = .returned (.bool (decide (a1 = b1 ∧ a2 = b2 ∧ a3 = b3))) ∧ Below w.heap.size w w' := by
 obtain ⟨V, HW, xa, xb, hB, -⟩ := boxes2 w #[.slice XA a1.length xc, .slice YA a2.length yc, .slice ZA a3.length zc] 30 #[.slice XB b1.length xd, .slice YB b2.length yd, .slice ZB b3.length zd] 30
 have ra := ha.next hB
 have rb := hb.next hB
 obtain ⟨l1, l2, l3⟩ := hl
 obtain ⟨p0, p1, p2⟩ := xa.c3
 obtain ⟨q0, q1, q2⟩ := xb.c3
 obtain ⟨r, hr⟩ : ∃ r, decide (a1 = b1 ∧ a2 = b2 ∧ a3 = b3) = r := ⟨_, rfl⟩
 have HNO : Hid (¬ (a1 = b1 ∧ a2 = b2 ∧ a3 = b3) → false = r) := Lib.hid (fun h => by rw [← hr]; exact (decide_eq_false h).symm)
 have HYES : Hid ((a1 = b1 ∧ a2 = b2 ∧ a3 = b3) → true = r) := Lib.hid (fun h => by rw [← hr]; exact (decide_eq_true h).symm)
 rw [hr]
 clear hr
 have hV := HW.out
 by_cases e1 : a1.length = b1.length
 case neg =>
  have HF := Lib.hid (HNO.out (fun h => e1 (by rw [h.1])))
  have n1 : ((a1.length : Int) != (b1.length : Int)) = true := by simp; omega
  clear e1
  go_enter Tryz.func26, Tryz.ntmps26
  go_wp2_with fail
  go_ret
  exact ⟨ret_bool HF.out, hB⟩
 have n1 : ((a1.length : Int) != (b1.length : Int)) = false := by simp [e1]
 have HE1 := Lib.hid e1
 clear e1
 by_cases e2 : a2.length = b2.length
 case neg =>
  have HF := Lib.hid (HNO.out (fun h => e2 (by rw [h.2.1])))
  have n2 : ((a2.length : Int) != (b2.length : Int)) = true := by simp; omega
  clear e2
  go_enter Tryz.func26, Tryz.ntmps26
  go_wp2_with fail
  go_ret
  exact ⟨ret_bool HF.out, hB⟩
 have n2 : ((a2.length : Int) != (b2.length : Int)) = false := by simp [e2]
 have HE2 := Lib.hid e2
 clear e2
 by_cases e3 : a3.length = b3.length
 case neg =>
  have HF := Lib.hid (HNO.out (fun h => e3 (by rw [h.2.2])))
  have n3 : ((a3.length : Int) != (b3.length : Int)) = true := by simp; omega
  clear e3
  go_enter Tryz.func26, Tryz.ntmps26
  go_wp2_with fail
  go_ret
  exact ⟨ret_bool HF.out, hB⟩
 have n3 : ((a3.length : Int) != (b3.length : Int)) = false := by simp [e3]
 have HE3 := Lib.hid e3
 clear e3
 go_enter Tryz.func26, Tryz.ntmps26
 go_wp2_with fail
 clear hV p0 p1 p2 q0 q1 q2
 go_loopw [5] (fun i wr => ∃ k : Nat, k ≤ a1.length ∧ i = .int .i64 k ∧ Below V.heap.size V wr ∧ Hid (a1.take k = b1.take k)) (fun i _ => a1.length - (intOf i).toNat)
 case atStart => exact ⟨0, Nat.zero_le _, rfl, Below.refl _ _, Lib.hid (by simp)⟩
 case round =>
  obtain ⟨k, hk, rfl, hBv, HT⟩ := hrel
  obtain ⟨p0, p1, p2⟩ := (xa.below hBv).c3
  obtain ⟨q0, q1, q2⟩ := (xb.below hBv).c3
  by_cases hlt : k < a1.length
  case pos =>
   have hlt2 : k < b1.length := by have := HE1.out; omega
   obtain ⟨la, rfl, hla, x0, hx⟩ := (ra.p.below hBv).sp (by decide) hlt
   obtain ⟨lb, rfl, hlb, y0, hy⟩ := (rb.p.below hBv).sp (by decide) hlt2
   have x1 := hx 1 (by decide) (by decide)
   have y1 := hy 1 (by decide) (by decide)
   have x2 := hx 2 (by decide) (by decide)
   have y2 := hy 2 (by decide) (by decide)
   have x3 := hx 3 (by decide) (by decide)
   have y3 := hy 3 (by decide) (by decide)
   have x4 := hx 4 (by decide) (by decide)
   have y4 := hy 4 (by decide) (by decide)
   have HX := Lib.hid (take_snoc16 hlt)
   have HY := Lib.hid (take_snoc16 hlt2)
   have HDF := Lib.hid (differ16 hlt hlt2)
   clear hx hy
   have sla := Nat.lt_of_lt_of_le hla hBv.size
   have slb := Nat.lt_of_lt_of_le hlb hBv.size
   have lxa := (xa.below hBv).lt
   have lxb := (xb.below hBv).lt
   generalize a1[k] = x at *
   generalize b1[k] = y at *
   obtain ⟨u0, u1, u2, u3, u4⟩ := x
   obtain ⟨v0, v1, v2, v3, v4⟩ := y
   simp only [p5cell] at x0 y0 x1 y1 x2 y2 x3 y3 x4 y4
   have g0 : (0 : Int) ≤ (k : Int) := by omega
   have g1 : (k : Int) < (a1.length : Int) := by omega
   have g2 : (k : Int) < (b1.length : Int) := by omega
   by_cases h0 : u0 = v0
   case neg =>
    have HF := Lib.hid (HNO.out (fun h => HDF.out (fun e => h0 (by injection e)) h.1))
    go_wp2_with fail
    go_quiet (fail)
    have B5 := below_drewN hBv
    go_wp2_with fail
    go_ret
    exact ⟨ret_bool HF.out, after_ hB (B5 _)⟩
   subst h0
   by_cases h1 : u1 = v1
   case neg =>
    have HF := Lib.hid (HNO.out (fun h => HDF.out (fun e => h1 (by injection e)) h.1))
    go_wp2_with fail
    go_quiet (fail)
    have B5 := below_drewN hBv
    go_wp2_with fail
    go_ret
    exact ⟨ret_bool HF.out, after_ hB (B5 _)⟩
   subst h1
   by_cases h2 : u2 = v2
   case neg =>
    have HF := Lib.hid (HNO.out (fun h => HDF.out (fun e => h2 (by injection e)) h.1))
    go_wp2_with fail
    go_quiet (fail)
    have B5 := below_drewN hBv
    go_wp2_with fail
    go_ret
    exact ⟨ret_bool HF.out, after_ hB (B5 _)⟩
   subst h2
   by_cases h3 : u3 = v3
   case neg =>
    have HF := Lib.hid (HNO.out (fun h => HDF.out (fun e => h3 (by injection e)) h.1))
    go_wp2_with fail
    go_quiet (fail)
    have B5 := below_drewN hBv
    go_wp2_with fail
    go_ret
    exact ⟨ret_bool HF.out, after_ hB (B5 _)⟩
   subst h3
   by_cases h4 : u4 = v4
   case neg =>
    have HF := Lib.hid (HNO.out (fun h => HDF.out (fun e => h4 (by injection e)) h.1))
    go_wp2_with fail
    go_quiet (fail)
    have B5 := below_drewN hBv
    go_wp2_with fail
    go_ret
    exact ⟨ret_bool HF.out, after_ hB (B5 _)⟩
   subst h4
   go_wp2_with fail
   go_quiet (fail)
   have B5 := below_drewN hBv
   go_wp2_with fail
   go_roundw
   case rel => exact ⟨k + 1, hlt, by go_num, B5 _, Lib.hid (by rw [HX.out, HY.out, HT.out])⟩
   case measure => simp [intOf]; omega
  case neg =>
   have HK1 : Hid (a1 = b1) := Lib.hid (by have h := HT.out; have h2 := HE1.out; rwa [List.take_of_length_le (by omega), List.take_of_length_le (by omega)] at h)
   clear HT
   go_wp2_with fail
   clear p0 p1 p2 q0 q1 q2 hlt hk
   go_loopw [6] (fun i wr => ∃ k : Nat, k ≤ a2.length ∧ i = .int .i64 k ∧ Below V.heap.size V wr ∧ Hid (a2.take k = b2.take k)) (fun i _ => a2.length - (intOf i).toNat)
   case atStart => exact ⟨0, Nat.zero_le _, rfl, hBv, Lib.hid (by simp)⟩
   case round =>
    clear hBv
    obtain ⟨k, hk, rfl, hBv, HT⟩ := hrel
    obtain ⟨p0, p1, p2⟩ := (xa.below hBv).c3
    obtain ⟨q0, q1, q2⟩ := (xb.below hBv).c3
    by_cases hlt : k < a2.length
    case pos =>
     have hlt2 : k < b2.length := by have := HE2.out; omega
     obtain ⟨la, rfl, hla, x0, hx⟩ := (ra.l.below hBv).sp (by decide) hlt
     obtain ⟨lb, rfl, hlb, y0, hy⟩ := (rb.l.below hBv).sp (by decide) hlt2
     have x1 := hx 1 (by decide) (by decide)
     have y1 := hy 1 (by decide) (by decide)
     have x2 := hx 2 (by decide) (by decide)
     have y2 := hy 2 (by decide) (by decide)
     have x3 := hx 3 (by decide) (by decide)
     have y3 := hy 3 (by decide) (by decide)
     have x4 := hx 4 (by decide) (by decide)
     have y4 := hy 4 (by decide) (by decide)
     have HX := Lib.hid (take_snoc16 hlt)
     have HY := Lib.hid (take_snoc16 hlt2)
     have HDF := Lib.hid (differ16 hlt hlt2)
     clear hx hy
     have sla := Nat.lt_of_lt_of_le hla hBv.size
     have slb := Nat.lt_of_lt_of_le hlb hBv.size
     have lxa := (xa.below hBv).lt
     have lxb := (xb.below hBv).lt
     generalize a2[k] = x at *
     generalize b2[k] = y at *
     obtain ⟨u0, u1, u2, u3, u4⟩ := x
     obtain ⟨v0, v1, v2, v3, v4⟩ := y
     simp only [p5cell] at x0 y0 x1 y1 x2 y2 x3 y3 x4 y4
     have g0 : (0 : Int) ≤ (k : Int) := by omega
     have g1 : (k : Int) < (a2.length : Int) := by omega
     have g2 : (k : Int) < (b2.length : Int) := by omega
     by_cases h0 : u0 = v0
     case neg =>
      have HF := Lib.hid (HNO.out (fun h => HDF.out (fun e => h0 (by injection e)) h.2.1))
      go_wp2_with fail
      go_quiet (fail)
      have B5 := below_drewN hBv
      go_wp2_with fail
      go_ret
      exact ⟨ret_bool HF.out, after_ hB (B5 _)⟩
     subst h0
     by_cases h1 : u1 = v1
     case neg =>
      have HF := Lib.hid (HNO.out (fun h => HDF.out (fun e => h1 (by injection e)) h.2.1))
      go_wp2_with fail
      go_quiet (fail)
      have B5 := below_drewN hBv
      go_wp2_with fail
      go_ret
      exact ⟨ret_bool HF.out, after_ hB (B5 _)⟩
     subst h1
     by_cases h2 : u2 = v2
     case neg =>
      have HF := Lib.hid (HNO.out (fun h => HDF.out (fun e => h2 (by injection e)) h.2.1))
      go_wp2_with fail
      go_quiet (fail)
      have B5 := below_drewN hBv
      go_wp2_with fail
      go_ret
      exact ⟨ret_bool HF.out, after_ hB (B5 _)⟩
     subst h2
     by_cases h3 : u3 = v3
     case neg =>
      have HF := Lib.hid (HNO.out (fun h => HDF.out (fun e => h3 (by injection e)) h.2.1))
      go_wp2_with fail
      go_quiet (fail)
      have B5 := below_drewN hBv
      go_wp2_with fail
      go_ret
      exact ⟨ret_bool HF.out, after_ hB (B5 _)⟩
     subst h3
     by_cases h4 : u4 = v4
     case neg =>
      have HF := Lib.hid (HNO.out (fun h => HDF.out (fun e => h4 (by injection e)) h.2.1))
      go_wp2_with fail
      go_quiet (fail)
      have B5 := below_drewN hBv
      go_wp2_with fail
      go_ret
      exact ⟨ret_bool HF.out, after_ hB (B5 _)⟩
     subst h4
     go_wp2_with fail
     go_quiet (fail)
     have B5 := below_drewN hBv
     go_wp2_with fail
     go_roundw
     case rel => exact ⟨k + 1, hlt, by go_num, B5 _, Lib.hid (by rw [HX.out, HY.out, HT.out])⟩
     case measure => simp [intOf]; omega
    case neg =>
     have HK2 : Hid (a2 = b2) := Lib.hid (by have h := HT.out; have h2 := HE2.out; rwa [List.take_of_length_le (by omega), List.take_of_length_le (by omega)] at h)
     clear HT
     go_wp2_with fail
     clear p0 p1 p2 q0 q1 q2 hlt hk
     go_loopw [7] (fun i wr => ∃ k : Nat, k ≤ a3.length ∧ i = .int .i64 k ∧ Below V.heap.size V wr ∧ Hid (a3.take k = b3.take k)) (fun i _ => a3.length - (intOf i).toNat)
     case atStart => exact ⟨0, Nat.zero_le _, rfl, hBv, Lib.hid (by simp)⟩
     case round =>
      clear hBv
      obtain ⟨k, hk, rfl, hBv, HT⟩ := hrel
      obtain ⟨p0, p1, p2⟩ := (xa.below hBv).c3
      obtain ⟨q0, q1, q2⟩ := (xb.below hBv).c3
      by_cases hlt : k < a3.length
      case pos =>
       have hlt2 : k < b3.length := by have := HE3.out; omega
       obtain ⟨la, rfl, hla, x0, hx⟩ := (ra.c.below hBv).sp (by decide) hlt
       obtain ⟨lb, rfl, hlb, y0, hy⟩ := (rb.c.below hBv).sp (by decide) hlt2
       have x1 := hx 1 (by decide) (by decide)
       have y1 := hy 1 (by decide) (by decide)
       have x2 := hx 2 (by decide) (by decide)
       have y2 := hy 2 (by decide) (by decide)
       have x3 := hx 3 (by decide) (by decide)
       have y3 := hy 3 (by decide) (by decide)
       have HX := Lib.hid (take_snoc16 hlt)
       have HY := Lib.hid (take_snoc16 hlt2)
       have HDF := Lib.hid (differ16 hlt hlt2)
       clear hx hy
       have sla := Nat.lt_of_lt_of_le hla hBv.size
       have slb := Nat.lt_of_lt_of_le hlb hBv.size
       have lxa := (xa.below hBv).lt
       have lxb := (xb.below hBv).lt
       generalize a3[k] = x at *
       generalize b3[k] = y at *
       obtain ⟨u0, u1, u2, u3⟩ := x
       obtain ⟨v0, v1, v2, v3⟩ := y
       simp only [p4cell] at x0 y0 x1 y1 x2 y2 x3 y3
       have g0 : (0 : Int) ≤ (k : Int) := by omega
       have g1 : (k : Int) < (a3.length : Int) := by omega
       have g2 : (k : Int) < (b3.length : Int) := by omega
       by_cases h0 : u0 = v0
       case neg =>
        have HF := Lib.hid (HNO.out (fun h => HDF.out (fun e => h0 (by injection e)) h.2.2))
        go_wp2_with fail
        go_quiet (fail)
        have B5 := below_drewN hBv
        go_wp2_with fail
        go_ret
        exact ⟨ret_bool HF.out, after_ hB (B5 _)⟩
       subst h0
       by_cases h1 : u1 = v1
       case neg =>
        have HF := Lib.hid (HNO.out (fun h => HDF.out (fun e => h1 (by injection e)) h.2.2))
        go_wp2_with fail
        go_quiet (fail)
        have B5 := below_drewN hBv
        go_wp2_with fail
        go_ret
        exact ⟨ret_bool HF.out, after_ hB (B5 _)⟩
       subst h1
       by_cases h2 : u2 = v2
       case neg =>
        have HF := Lib.hid (HNO.out (fun h => HDF.out (fun e => h2 (by injection e)) h.2.2))
        go_wp2_with fail
        go_quiet (fail)
        have B5 := below_drewN hBv
        go_wp2_with fail
        go_ret
        exact ⟨ret_bool HF.out, after_ hB (B5 _)⟩
       subst h2
       by_cases h3 : u3 = v3
       case neg =>
        have HF := Lib.hid (HNO.out (fun h => HDF.out (fun e => h3 (by injection e)) h.2.2))
        go_wp2_with fail
        go_quiet (fail)
        have B5 := below_drewN hBv
        go_wp2_with fail
        go_ret
        exact ⟨ret_bool HF.out, after_ hB (B5 _)⟩
       subst h3
       go_wp2_with fail
       go_quiet (fail)
       have B5 := below_drewN hBv
       go_wp2_with fail
       go_roundw
       case rel => exact ⟨k + 1, hlt, by go_num, B5 _, Lib.hid (by rw [HX.out, HY.out, HT.out])⟩
       case measure => simp [intOf]; omega
      case neg =>
       have HK3 : Hid (a3 = b3) := Lib.hid (by have h := HT.out; have h2 := HE3.out; rwa [List.take_of_length_le (by omega), List.take_of_length_le (by omega)] at h)
       clear HT
       go_wp2_with fail
       go_ret
       exact ⟨ret_bool (HYES.out ⟨HK1.out, HK2.out, HK3.out⟩), after_ hB hBv⟩
end Go.Proofs.YtciolgmljpamlaaGreatDoor
end

section
namespace Go.Proofs.YtciolgmljpamlaaGreatDoor
open Go Go.RowKit
set_option maxRecDepth 100000
theorem M.vPair_iff {p : P5} : M.vPair p = true ↔ M.isIn16 p.a 0 511 = true ∧ M.isIn16 p.b 0 511 = true ∧ ¬ p.b ≤ p.a ∧ ¬ p.c < -1 ∧ ¬ 1 < p.c ∧ M.rng p.d p.e = true := by
  unfold M.vPair
  generalize M.isIn16 p.a 0 511 = b1
  generalize M.isIn16 p.b 0 511 = b2
  generalize M.rng p.d p.e = b3
  simp only [M.isIn16, Bool.and_eq_true, decide_eq_true_eq]
  constructor
  · rintro ⟨⟨⟨⟨h1, h2⟩, h3⟩, h4, h5⟩, h6⟩; exact ⟨h1, h2, by omega, by omega, by omega, h6⟩
  · rintro ⟨h1, h2, h3, h4, h5, h6⟩; exact ⟨⟨⟨⟨h1, h2⟩, by omega⟩, by omega, by omega⟩, h6⟩
theorem M.vLoad_iff {p : P5} : M.vLoad p = true ↔ M.isIn16 p.a 0 511 = true ∧ M.isIn16 p.b 0 511 = true ∧ ¬ p.a = p.b ∧ ¬ p.c < 1 ∧ ¬ 1073741824 < p.c ∧ M.rng p.d p.e = true := by
  unfold M.vLoad
  generalize M.isIn16 p.a 0 511 = b1
  generalize M.isIn16 p.b 0 511 = b2
  generalize M.rng p.d p.e = b3
  simp only [M.isIn16, Bool.and_eq_true, decide_eq_true_eq]
  constructor
  · rintro ⟨⟨⟨⟨h1, h2⟩, h3⟩, h4, h5⟩, h6⟩; exact ⟨h1, h2, h3, by omega, by omega, h6⟩
  · rintro ⟨h1, h2, h3, h4, h5, h6⟩; exact ⟨⟨⟨⟨h1, h2⟩, h3⟩, by omega, by omega⟩, h6⟩
theorem M.vCap_iff {p : P4} : M.vCap p = true ↔ M.isIn16 p.a 0 511 = true ∧ ¬ p.b < 0 ∧ ¬ 1099511627776 < p.b ∧ M.rng p.c p.d = true := by
  unfold M.vCap
  generalize M.isIn16 p.a 0 511 = b1
  generalize M.rng p.c p.d = b3
  simp only [M.isIn16, Bool.and_eq_true, decide_eq_true_eq]
  constructor
  · rintro ⟨⟨h1, h4, h5⟩, h6⟩; exact ⟨h1, by omega, by omega, h6⟩
  · rintro ⟨h1, h4, h5, h6⟩; exact ⟨⟨h1, by omega, by omega⟩, h6⟩
theorem M.vstepL5 {v : P5 → Bool} {l : List P5} {k j : Nat} (hk : k < l.length) (h : v l[k] = true) (e : k = j + 1) : M.vstep v M.cmp5 l k = M.lessI (l[j]'(by omega)).l l[k].l := by
  subst e
  rw [M.vstepN hk h (by omega), M.cmp5_less]; rfl
theorem M.vstepL4 {v : P4 → Bool} {l : List P4} {k j : Nat} (hk : k < l.length) (h : v l[k] = true) (e : k = j + 1) : M.vstep v M.cmp4 l k = M.lessI (l[j]'(by omega)).l l[k].l := by
  subst e
  rw [M.vstepN hk h (by omega), M.cmp4_less]; rfl
theorem M.rv_no1 {ps ls : List P5} {cs : List P4} (h : M.vlist 4096 M.vPair M.cmp5 ps = false) : M.rvalid ps ls cs = false := by unfold M.rvalid; rw [h]; rfl
theorem M.rv_no2 {ps ls : List P5} {cs : List P4} (h : M.vlist 1024 M.vLoad M.cmp5 ls = false) : M.rvalid ps ls cs = false := by unfold M.rvalid; rw [h, Bool.and_false, Bool.false_and]
theorem M.rv_no3 {ps ls : List P5} {cs : List P4} (h : M.vlist 1024 M.vCap M.cmp4 cs = false) : M.rvalid ps ls cs = false := by unfold M.rvalid; rw [h, Bool.and_false]
theorem M.vl_long {α : Type} {m : Nat} {v : α → Bool} {cf : α → α → Int} {l : List α} (h : m < l.length) : M.vlist m v cf l = false := by unfold M.vlist; rw [decide_eq_false (by omega), Bool.false_and]
theorem M.vl_yes {α : Type} {m : Nat} {v : α → Bool} {cf : α → α → Int} {l : List α} (h : l.length ≤ m) (h2 : M.vscan v cf l l.length = true) : M.vlist m v cf l = true := by unfold M.vlist; rw [decide_eq_true h, h2]; rfl
set_option maxHeartbeats 32000000 in
theorem v16_reg0 {Q : Exit → Act → World → Prop} {cd : Code} {dl : List Deferred} {Z0 Z2 Z5 Z6 Z7 Z8 Z9 Za Zb Zc Zd Ze Zf Zg Zh Zi Zj Zk Zl Zm Zn Zo Zp Zq Zr Zs Zt Zu Zv Zw Zx Zy Zz Z10 Z11 Z12 Z13 Z14 Z15 Z16 Z17 Z18 Z19 Z1a Z1b Z1c Z1d Z1e Z1f Z1g Z1h Z1i Z1j Z1k Z1l Z1m Z1n Z1o Z1p Z1q Z1r Z1s Z1t Z1u Z1v Z1w Z1x Z1y Z1z Z20 Z21 Z22 Z23 Z24 Z25 Z26 Z27 Z28 Z29 Z2a Z2b Z2c Z2d Z2e Z2f Z2g Z2h Z2i Z2j Z2k Z2l Z2m Z2n Z2o Z2p Z2q Z2r Z2s Z2t Z2u Z2v Z2w Z2x Z2y Z2z Z30 Z31 Z32 Z33 Z34 Z35 Z36 Z37 Z38 Z39 Z3a Z3b Z3c Z3d Z3e Z3f Z3g Z3h Z3i Z3j Z3k Z3l Z3m Z3n Z3o Z3p Z3q Z3r Z3s Z3t Z3u Z3v Z3w Z3x Z3y Z3z Z40 Z41 Z42 Z43 Z44 Z45 Z46 Z47 Z48 Z49 Z4a Z4b Z4c Z4d Z4e Z4f Z4g Z4h Z4i Z4j Z4k Z4l Z4m Z4n Z4o Z4p Z4q Z4r Z4s Z4t Z4u Z4v Z4w Z4x Z4y Z4z Z50 Z51 Z52 Z53 Z54 Z55 Z56 Z57 Z58 Z59 Z5a Z5b Z5c Z5d Z5e Z5f Z5g Z5h Z5i Z5j Z5k Z5l Z5m Z5n : Value} (XA YA ZA : Option Addr) (xc yc zc : Nat) (ps ls : List P5) (cs : List P4) (X : World) (br bx k : Nat) (x : P5) (xa : Box X br #[.slice XA ps.length xc, .slice YA ls.length yc, .slice ZA cs.length zc] 30) (u0 : Box X bx (p5c x) 66) (hA : Sl 5 p5cell X X.heap.size XA ps) (hlt : k < ps.length) (hx : ps[k] = x) (hm : ps.length ≤ 4096) (hcd : (Tryz.f17.body.bind (regionOf 7)) = some cd)
    (hQ : ∀ (y37 y38 y39 y40 y41 y42 y43 y44 y45 y46 y47 y48 y49 y50 y51 y52 y53 y54 y55 y56 y57 y58 y59 y60 y61 y62 y63 y64 y65 y66 y67 y68 y69 y70 y71 y72 y73 y74 y75 y76 y77 y78 y79 y80 y81 y82 y83 y84 y85 y86 y87 : Value) (wo : World) (r : Bool), r = !M.vstep M.vPair M.cmp5 ps k → Below X.heap.size X wo → Q .normal ⟨#[Z0,.pointer (some ⟨br, 0, none⟩),Z2,.int .i64 k,.pointer (some ⟨bx, 0, none⟩),Z5,Z6,Z7,Z8,Z9,Za,Zb,Zc,Zd,Ze,Zf,Zg,Zh,Zi,Zj,Zk,Zl,Zm,Zn,Zo,Zp,Zq,Zr,Zs,Zt,Zu,Zv,Zw,Zx,Zy,Zz,Z10,y37,y38,y39,y40,y41,y42,y43,y44,y45,y46,y47,y48,y49,y50,y51,y52,y53,y54,y55,y56,y57,y58,y59,y60,y61,y62,y63,y64,y65,y66,y67,y68,y69,y70,y71,y72,y73,y74,y75,y76,y77,y78,y79,y80,y81,y82,y83,y84,y85,y86,y87,.bool r,Z2h,Z2i,Z2j,Z2k,Z2l,Z2m,Z2n,Z2o,Z2p,Z2q,Z2r,Z2s,Z2t,Z2u,Z2v,Z2w,Z2x,Z2y,Z2z,Z30,Z31,Z32,Z33,Z34,Z35,Z36,Z37,Z38,Z39,Z3a,Z3b,Z3c,Z3d,Z3e,Z3f,Z3g,Z3h,Z3i,Z3j,Z3k,Z3l,Z3m,Z3n,Z3o,Z3p,Z3q,Z3r,Z3s,Z3t,Z3u,Z3v,Z3w,Z3x,Z3y,Z3z,Z40,Z41,Z42,Z43,Z44,Z45,Z46,Z47,Z48,Z49,Z4a,Z4b,Z4c,Z4d,Z4e,Z4f,Z4g,Z4h,Z4i,Z4j,Z4k,Z4l,Z4m,Z4n,Z4o,Z4p,Z4q,Z4r,Z4s,Z4t,Z4u,Z4v,Z4w,Z4x,Z4y,Z4z,Z50,Z51,Z52,Z53,Z54,Z55,Z56,Z57,Z58,Z59,Z5a,Z5b,Z5c,Z5d,Z5e,Z5f,Z5g,Z5h,Z5i,Z5j,Z5k,Z5l,Z5m,Z5n], dl⟩ wo) :
    cd.wp Tryz.prog Q ⟨#[Z0,.pointer (some ⟨br, 0, none⟩),Z2,.int .i64 k,.pointer (some ⟨bx, 0, none⟩),Z5,Z6,Z7,Z8,Z9,Za,Zb,Zc,Zd,Ze,Zf,Zg,Zh,Zi,Zj,Zk,Zl,Zm,Zn,Zo,Zp,Zq,Zr,Zs,Zt,Zu,Zv,Zw,Zx,Zy,Zz,Z10,Z11,Z12,Z13,Z14,Z15,Z16,Z17,Z18,Z19,Z1a,Z1b,Z1c,Z1d,Z1e,Z1f,Z1g,Z1h,Z1i,Z1j,Z1k,Z1l,Z1m,Z1n,Z1o,Z1p,Z1q,Z1r,Z1s,Z1t,Z1u,Z1v,Z1w,Z1x,Z1y,Z1z,Z20,Z21,Z22,Z23,Z24,Z25,Z26,Z27,Z28,Z29,Z2a,Z2b,Z2c,Z2d,Z2e,Z2f,Z2g,Z2h,Z2i,Z2j,Z2k,Z2l,Z2m,Z2n,Z2o,Z2p,Z2q,Z2r,Z2s,Z2t,Z2u,Z2v,Z2w,Z2x,Z2y,Z2z,Z30,Z31,Z32,Z33,Z34,Z35,Z36,Z37,Z38,Z39,Z3a,Z3b,Z3c,Z3d,Z3e,Z3f,Z3g,Z3h,Z3i,Z3j,Z3k,Z3l,Z3m,Z3n,Z3o,Z3p,Z3q,Z3r,Z3s,Z3t,Z3u,Z3v,Z3w,Z3x,Z3y,Z3z,Z40,Z41,Z42,Z43,Z44,Z45,Z46,Z47,Z48,Z49,Z4a,Z4b,Z4c,Z4d,Z4e,Z4f,Z4g,Z4h,Z4i,Z4j,Z4k,Z4l,Z4m,Z4n,Z4o,Z4p,Z4q,Z4r,Z4s,Z4t,Z4u,Z4v,Z4w,Z4x,Z4y,Z4z,Z50,Z51,Z52,Z53,Z54,Z55,Z56,Z57,Z58,Z59,Z5a,Z5b,Z5c,Z5d,Z5e,Z5f,Z5g,Z5h,Z5i,Z5j,Z5k,Z5l,Z5m,Z5n], dl⟩ X := by
  rw [show (Tryz.f17.body.bind (regionOf 7)) = some (Code.region 7 _ true) from rfl] at hcd
  obtain rfl := Option.some.inj hcd
  clear hcd
  dsimp only at hQ ⊢
  have HV0 : Hid (M.vPair x = false → true = !M.vstep M.vPair M.cmp5 ps k) := Lib.hid (fun h => by rw [M.vstep0 hlt (by rw [hx]; exact h)]; rfl)
  have HVF : Hid (M.vPair x = true → ¬ 0 < k → false = !M.vstep M.vPair M.cmp5 ps k) := Lib.hid (fun h h0 => by rw [M.vstepF hlt (by rw [hx]; exact h) h0]; rfl)
  have HVT : Hid (∀ j (h0 : k = j + 1), M.vPair x = true → M.lessI (ps[j]'(by omega)).l x.l = true → false = !M.vstep M.vPair M.cmp5 ps k) := Lib.hid (fun j h0 h h2 => by rw [M.vstepL5 hlt (by rw [hx]; exact h) h0, hx, h2]; rfl)
  have HVN : Hid (∀ j (h0 : k = j + 1), M.vPair x = true → M.lessI (ps[j]'(by omega)).l x.l = false → true = !M.vstep M.vPair M.cmp5 ps k) := Lib.hid (fun j h0 h h2 => by rw [M.vstepL5 hlt (by rw [hx]; exact h) h0, hx, h2]; rfl)
  generalize M.vstep M.vPair M.cmp5 ps k = vs at *
  clear hx
  obtain ⟨la, hla, hlb, -, -⟩ := hA.sp (by decide) hlt
  obtain ⟨m0, m1, m2, m3, m4⟩ : X.cell? ⟨bx, 0, none⟩ = some (.int .i64 x.a) ∧ X.cell? ⟨bx, 1, none⟩ = some (.int .i64 x.b) ∧ X.cell? ⟨bx, 2, none⟩ = some (.int .i64 x.c) ∧ X.cell? ⟨bx, 3, none⟩ = some (.int .i64 x.d) ∧ X.cell? ⟨bx, 4, none⟩ = some (.int .i64 x.e) := ⟨u0.cell 0 rfl, u0.cell 1 rfl, u0.cell 2 rfl, u0.cell 3 rfl, u0.cell 4 rfl⟩
  obtain ⟨t0, t1, t2⟩ := xa.c3
  have lV := xa.lt
  have l0 := u0.lt
  have g0 : (0 : Int) ≤ (k : Int) := by omega
  have g1 : (k : Int) < (ps.length : Int) := by omega
  have kq0 := fun w1 => number16_ok x.a w1
  cases c0 : M.isIn16 x.a 0 511
  case false =>
    rw [c0] at kq0
    have k0 := Lib.hid kq0
    clear kq0
    have HF := Lib.hid (HV0.out (Bool.eq_false_iff.2 (fun h => by have h2 := (M.vPair_iff.1 h).1; rw [c0] at h2; exact Bool.noConfusion h2)))
    refine wp_region_kept X.heap.size X (by kernel_rfl) (by kernel_rfl) (Below.refl _ _) ?_
    repeat (go_big_quiet_step (first | (go_at_call 57; with_reducible exact Kept.same (k0.out _))))
    refine wpQuiet_nil ?_
    rintro w5 ⟨⟨w5x, hb5⟩, hw5⟩
    dsimp only at hw5
    subst hw5
    exact hQ _ _ _ _ _ _ _ _ _ _ _ _ _ _ _ _ _ _ _ _ _ _ _ _ _ _ _ _ _ _ _ _ _ _ _ _ _ _ _ _ _ _ _ _ _ _ _ _ _ _ _ _ true HF.out hb5
  rw [c0] at kq0
  have k0 := Lib.hid kq0
  clear kq0
  replace c0 := Lib.hid c0
  have kq1 := fun w1 => number16_ok x.b w1
  cases c1 : M.isIn16 x.b 0 511
  case false =>
    rw [c1] at kq1
    have k1 := Lib.hid kq1
    clear kq1
    have HF := Lib.hid (HV0.out (Bool.eq_false_iff.2 (fun h => by have h2 := (M.vPair_iff.1 h).2.1; rw [c1] at h2; exact Bool.noConfusion h2)))
    refine wp_region_kept X.heap.size X (by kernel_rfl) (by kernel_rfl) (Below.refl _ _) ?_
    repeat (go_big_quiet_step (first | (go_at_call 57; with_reducible exact Kept.same (k0.out _)) | (go_at_call 57; with_reducible exact Kept.same (k1.out _))))
    refine wpQuiet_nil ?_
    rintro w5 ⟨⟨w5x, hb5⟩, hw5⟩
    dsimp only at hw5
    subst hw5
    exact hQ _ _ _ _ _ _ _ _ _ _ _ _ _ _ _ _ _ _ _ _ _ _ _ _ _ _ _ _ _ _ _ _ _ _ _ _ _ _ _ _ _ _ _ _ _ _ _ _ _ _ _ _ true HF.out hb5
  rw [c1] at kq1
  have k1 := Lib.hid kq1
  clear kq1
  replace c1 := Lib.hid c1
  by_cases c2 : x.b ≤ x.a
  case pos =>
    have d2 : decide (x.b ≤ x.a) = true := decide_eq_true c2
    have HF := Lib.hid (HV0.out (Bool.eq_false_iff.2 (fun h => (M.vPair_iff.1 h).2.2.1 c2)))
    clear c2
    refine wp_region_kept X.heap.size X (by kernel_rfl) (by kernel_rfl) (Below.refl _ _) ?_
    repeat (go_big_quiet_step (first | (go_at_call 57; with_reducible exact Kept.same (k0.out _)) | (go_at_call 57; with_reducible exact Kept.same (k1.out _))))
    refine wpQuiet_nil ?_
    rintro w5 ⟨⟨w5x, hb5⟩, hw5⟩
    dsimp only at hw5
    subst hw5
    exact hQ _ _ _ _ _ _ _ _ _ _ _ _ _ _ _ _ _ _ _ _ _ _ _ _ _ _ _ _ _ _ _ _ _ _ _ _ _ _ _ _ _ _ _ _ _ _ _ _ _ _ _ _ true HF.out hb5
  have d2 : decide (x.b ≤ x.a) = false := decide_eq_false c2
  replace c2 := Lib.hid c2
  by_cases c3 : x.c < -1
  case pos =>
    have d3 : decide (x.c < -1) = true := decide_eq_true c3
    have HF := Lib.hid (HV0.out (Bool.eq_false_iff.2 (fun h => (M.vPair_iff.1 h).2.2.2.1 c3)))
    clear c3
    refine wp_region_kept X.heap.size X (by kernel_rfl) (by kernel_rfl) (Below.refl _ _) ?_
    repeat (go_big_quiet_step (first | (go_at_call 57; with_reducible exact Kept.same (k0.out _)) | (go_at_call 57; with_reducible exact Kept.same (k1.out _))))
    refine wpQuiet_nil ?_
    rintro w5 ⟨⟨w5x, hb5⟩, hw5⟩
    dsimp only at hw5
    subst hw5
    exact hQ _ _ _ _ _ _ _ _ _ _ _ _ _ _ _ _ _ _ _ _ _ _ _ _ _ _ _ _ _ _ _ _ _ _ _ _ _ _ _ _ _ _ _ _ _ _ _ _ _ _ _ _ true HF.out hb5
  have d3 : decide (x.c < -1) = false := decide_eq_false c3
  replace c3 := Lib.hid c3
  by_cases c4 : 1 < x.c
  case pos =>
    have d4 : decide (1 < x.c) = true := decide_eq_true c4
    have HF := Lib.hid (HV0.out (Bool.eq_false_iff.2 (fun h => (M.vPair_iff.1 h).2.2.2.2.1 c4)))
    clear c4
    refine wp_region_kept X.heap.size X (by kernel_rfl) (by kernel_rfl) (Below.refl _ _) ?_
    repeat (go_big_quiet_step (first | (go_at_call 57; with_reducible exact Kept.same (k0.out _)) | (go_at_call 57; with_reducible exact Kept.same (k1.out _))))
    refine wpQuiet_nil ?_
    rintro w5 ⟨⟨w5x, hb5⟩, hw5⟩
    dsimp only at hw5
    subst hw5
    exact hQ _ _ _ _ _ _ _ _ _ _ _ _ _ _ _ _ _ _ _ _ _ _ _ _ _ _ _ _ _ _ _ _ _ _ _ _ _ _ _ _ _ _ _ _ _ _ _ _ _ _ _ _ true HF.out hb5
  have d4 : decide (1 < x.c) = false := decide_eq_false c4
  replace c4 := Lib.hid c4
  have kq5 := fun w1 => span16_ok x.d x.e w1
  cases c5 : M.rng x.d x.e
  case false =>
    rw [c5] at kq5
    have k5 := Lib.hid kq5
    clear kq5
    have HF := Lib.hid (HV0.out (Bool.eq_false_iff.2 (fun h => by have h2 := (M.vPair_iff.1 h).2.2.2.2.2; rw [c5] at h2; exact Bool.noConfusion h2)))
    refine wp_region_kept X.heap.size X (by kernel_rfl) (by kernel_rfl) (Below.refl _ _) ?_
    repeat (go_big_quiet_step (first | (go_at_call 57; with_reducible exact Kept.same (k0.out _)) | (go_at_call 57; with_reducible exact Kept.same (k1.out _)) | (go_at_call 58; with_reducible exact Kept.same (k5.out _))))
    refine wpQuiet_nil ?_
    rintro w5 ⟨⟨w5x, hb5⟩, hw5⟩
    dsimp only at hw5
    subst hw5
    exact hQ _ _ _ _ _ _ _ _ _ _ _ _ _ _ _ _ _ _ _ _ _ _ _ _ _ _ _ _ _ _ _ _ _ _ _ _ _ _ _ _ _ _ _ _ _ _ _ _ _ _ _ _ true HF.out hb5
  rw [c5] at kq5
  have k5 := Lib.hid kq5
  clear kq5
  replace c5 := Lib.hid c5
  have hv := M.vPair_iff.2 ⟨c0.out, c1.out, c2.out, c3.out, c4.out, c5.out⟩
  clear c0 c1 c2 c3 c4 c5
  by_cases h0 : 0 < k
  case neg =>
    have HF := Lib.hid (HVF.out hv h0)
    have hk0 : decide ((0 : Int) < (k : Int)) = false := decide_eq_false (by omega)
    have hk0' : decide (0 < k) = false := decide_eq_false h0
    clear h0 hv
    refine wp_region_kept X.heap.size X (by kernel_rfl) (by kernel_rfl) (Below.refl _ _) ?_
    repeat (go_big_quiet_step (first | (go_at_call 57; with_reducible exact Kept.same (k0.out _)) | (go_at_call 57; with_reducible exact Kept.same (k1.out _)) | (go_at_call 58; with_reducible exact Kept.same (k5.out _))))
    refine wpQuiet_nil ?_
    rintro w5 ⟨⟨w5x, hb5⟩, hw5⟩
    dsimp only at hw5
    subst hw5
    exact hQ _ _ _ _ _ _ _ _ _ _ _ _ _ _ _ _ _ _ _ _ _ _ _ _ _ _ _ _ _ _ _ _ _ _ _ _ _ _ _ _ _ _ _ _ _ _ _ _ _ _ _ _ false HF.out hb5
  obtain ⟨pj, hpj⟩ : ∃ j, k = j + 1 := ⟨k - 1, by omega⟩
  obtain ⟨la2, hla2, hlb2, b0, hj2⟩ := hA.sp (k := pj) (by decide) (by omega)
  obtain rfl : la = la2 := Option.some.inj (hla.symm.trans hla2)
  have b1 := hj2 1 (by decide) (by decide)
  have b2 := hj2 2 (by decide) (by decide)
  have b3 := hj2 3 (by decide) (by decide)
  have b4 := hj2 4 (by decide) (by decide)
  clear hj2 hla2
  have HT2 := Lib.hid (HVT.out pj hpj hv)
  have HN2 := Lib.hid (HVN.out pj hpj hv)
  obtain ⟨y, hy⟩ : ∃ y, ps[pj]'(by omega) = y := ⟨_, rfl⟩
  rw [hy] at b0 b1 b2 b3 b4 HT2 HN2
  clear hy
  simp only [p5cell] at b0 b1 b2 b3 b4
  have hk0 : decide ((0 : Int) < (k : Int)) = true := decide_eq_true (by omega)
  have hk0' : decide (0 < k) = true := decide_eq_true h0
  have hwk : IntKind.i64.wrap ((k : Int) - 1) = (pj : Int) := by rw [show (k : Int) - 1 = (pj : Int) by omega]; exact wrap_small (by omega) (by omega)
  have s1 : (0 : Int) ≤ (pj : Int) := by omega
  have s2 : (pj : Int) < (ps.length : Int) := by omega
  have hel : ∀ wx, Below X.heap.size X wx → wx.cell? ⟨br, 0, none⟩ = some (.slice XA ps.length xc) ∧ wx.cell? ⟨bx, 0, none⟩ = some (.int .i64 x.a) ∧ wx.cell? ⟨bx, 1, none⟩ = some (.int .i64 x.b) ∧ wx.cell? ⟨bx, 2, none⟩ = some (.int .i64 x.c) ∧ wx.cell? ⟨bx, 3, none⟩ = some (.int .i64 x.d) ∧ wx.cell? ⟨bx, 4, none⟩ = some (.int .i64 x.e) ∧ wx.cell? (la.add (pj * 5)) = some (.int .i64 y.a) ∧ wx.cell? ⟨(la.add (pj * 5)).block, (la.add (pj * 5)).off + 1, none⟩ = some (.int .i64 y.b) ∧ wx.cell? ⟨(la.add (pj * 5)).block, (la.add (pj * 5)).off + 2, none⟩ = some (.int .i64 y.c) ∧ wx.cell? ⟨(la.add (pj * 5)).block, (la.add (pj * 5)).off + 3, none⟩ = some (.int .i64 y.d) ∧ wx.cell? ⟨(la.add (pj * 5)).block, (la.add (pj * 5)).off + 4, none⟩ = some (.int .i64 y.e) := fun wx hbx => by
    obtain ⟨t0, t1, t2⟩ := (xa.below hbx).c3
    exact ⟨t0, (u0.below hbx).cell 0 rfl, (u0.below hbx).cell 1 rfl, (u0.below hbx).cell 2 rfl, (u0.below hbx).cell 3 rfl, (u0.below hbx).cell 4 rfl, (hbx.cell (p := (la.add (pj * 5))) hlb2).trans b0, (hbx.cell (p := ⟨(la.add (pj * 5)).block, (la.add (pj * 5)).off + 1, none⟩) hlb2).trans b1, (hbx.cell (p := ⟨(la.add (pj * 5)).block, (la.add (pj * 5)).off + 2, none⟩) hlb2).trans b2, (hbx.cell (p := ⟨(la.add (pj * 5)).block, (la.add (pj * 5)).off + 3, none⟩) hlb2).trans b3, (hbx.cell (p := ⟨(la.add (pj * 5)).block, (la.add (pj * 5)).off + 4, none⟩) hlb2).trans b4⟩
  have hc : Below X.heap.size X X.drew := (Below.refl _ _).drew
  have h5 := hel _ hc
  have h6 := hel _ (Below.refl _ _)
  clear h0 hv HVT HVN HVF HV0 hpj
  cases hls : M.lessI y.l x.l
  case false =>
    have HF := Lib.hid (HN2.out hls)
    have kP : Hid (∀ wx, Calls Tryz.prog 60 #[p5v y] wx (RetS 1 icell wx y.l)) := Lib.hid (fun wx => pair16_any y wx)
    have kX : Hid (∀ wx, Calls Tryz.prog 60 #[p5v x] wx (RetS 1 icell wx x.l)) := Lib.hid (fun wx => pair16_any x wx)
    have kL : Hid (∀ wx PA QA pc qc, Sl 1 icell wx wx.heap.size PA y.l → Sl 1 icell wx wx.heap.size QA x.l → Calls Tryz.prog 59 #[.slice PA y.l.length pc, .slice QA x.l.length qc] wx fun e w' => e = .returned (.bool false) ∧ Below wx.heap.size wx w') := Lib.hid (fun wx PA QA pc qc h1 h2 => by rw [← hls]; exact less16_any PA QA pc qc y.l x.l wx h1 h2 rfl (by show 5 ≤ 1000; decide))
    clear hls HT2 HN2
    subst hla
    go_region_held3 (fun w' => w'.cell? ⟨br, 0, none⟩ = some (.slice (some la) ps.length xc) ∧ w'.cell? ⟨bx, 0, none⟩ = some (.int .i64 x.a) ∧ w'.cell? ⟨bx, 1, none⟩ = some (.int .i64 x.b) ∧ w'.cell? ⟨bx, 2, none⟩ = some (.int .i64 x.c) ∧ w'.cell? ⟨bx, 3, none⟩ = some (.int .i64 x.d) ∧ w'.cell? ⟨bx, 4, none⟩ = some (.int .i64 x.e) ∧ w'.cell? (la.add (pj * 5)) = some (.int .i64 y.a) ∧ w'.cell? ⟨(la.add (pj * 5)).block, (la.add (pj * 5)).off + 1, none⟩ = some (.int .i64 y.b) ∧ w'.cell? ⟨(la.add (pj * 5)).block, (la.add (pj * 5)).off + 2, none⟩ = some (.int .i64 y.c) ∧ w'.cell? ⟨(la.add (pj * 5)).block, (la.add (pj * 5)).off + 3, none⟩ = some (.int .i64 y.d) ∧ w'.cell? ⟨(la.add (pj * 5)).block, (la.add (pj * 5)).off + 4, none⟩ = some (.int .i64 y.e)) (first | with_reducible exact h5 | with_reducible exact h6 | with_reducible exact hel _ hc)
      (first
        | (go_at_call 57; ((with_reducible refine (k0.out _).mono ?_); rintro e wn ⟨rfl, hwn⟩; subst hwn))
        | (go_at_call 57; ((with_reducible refine (k1.out _).mono ?_); rintro e wn ⟨rfl, hwn⟩; subst hwn))
        | (go_at_call 58; ((with_reducible refine (k5.out _).mono ?_); rintro e wn ⟨rfl, hwn⟩; subst hwn))
        | (go_at_call 60; ((with_reducible refine (kP.out _).mono ?_); rintro e wa ⟨PA, pc, rfl, SA, hba⟩; replace hc := hc.trans (hba.mono hc.size); clear hba))
        | (go_at_call 60; ((with_reducible refine (kX.out _).mono ?_); rintro e wb ⟨QA, qc, rfl, SB, hbb⟩; replace SA := (SA.below hbb).more hbb.size; replace hc := hc.trans (hbb.mono hc.size); clear hbb))
        | (go_at_call 59; ((with_reducible refine (kL.out _ PA QA pc qc SA SB).mono ?_); rintro e wd ⟨rfl, hbd⟩; replace hc := hc.trans (hbd.mono hc.size); clear hbd)))
    all_goals exact hQ _ _ _ _ _ _ _ _ _ _ _ _ _ _ _ _ _ _ _ _ _ _ _ _ _ _ _ _ _ _ _ _ _ _ _ _ _ _ _ _ _ _ _ _ _ _ _ _ _ _ _ _ true HF.out hc
  case true =>
    have HF := Lib.hid (HT2.out hls)
    have kP : Hid (∀ wx, Calls Tryz.prog 60 #[p5v y] wx (RetS 1 icell wx y.l)) := Lib.hid (fun wx => pair16_any y wx)
    have kX : Hid (∀ wx, Calls Tryz.prog 60 #[p5v x] wx (RetS 1 icell wx x.l)) := Lib.hid (fun wx => pair16_any x wx)
    have kL : Hid (∀ wx PA QA pc qc, Sl 1 icell wx wx.heap.size PA y.l → Sl 1 icell wx wx.heap.size QA x.l → Calls Tryz.prog 59 #[.slice PA y.l.length pc, .slice QA x.l.length qc] wx fun e w' => e = .returned (.bool true) ∧ Below wx.heap.size wx w') := Lib.hid (fun wx PA QA pc qc h1 h2 => by rw [← hls]; exact less16_any PA QA pc qc y.l x.l wx h1 h2 rfl (by show 5 ≤ 1000; decide))
    clear hls HT2 HN2
    subst hla
    go_region_held3 (fun w' => w'.cell? ⟨br, 0, none⟩ = some (.slice (some la) ps.length xc) ∧ w'.cell? ⟨bx, 0, none⟩ = some (.int .i64 x.a) ∧ w'.cell? ⟨bx, 1, none⟩ = some (.int .i64 x.b) ∧ w'.cell? ⟨bx, 2, none⟩ = some (.int .i64 x.c) ∧ w'.cell? ⟨bx, 3, none⟩ = some (.int .i64 x.d) ∧ w'.cell? ⟨bx, 4, none⟩ = some (.int .i64 x.e) ∧ w'.cell? (la.add (pj * 5)) = some (.int .i64 y.a) ∧ w'.cell? ⟨(la.add (pj * 5)).block, (la.add (pj * 5)).off + 1, none⟩ = some (.int .i64 y.b) ∧ w'.cell? ⟨(la.add (pj * 5)).block, (la.add (pj * 5)).off + 2, none⟩ = some (.int .i64 y.c) ∧ w'.cell? ⟨(la.add (pj * 5)).block, (la.add (pj * 5)).off + 3, none⟩ = some (.int .i64 y.d) ∧ w'.cell? ⟨(la.add (pj * 5)).block, (la.add (pj * 5)).off + 4, none⟩ = some (.int .i64 y.e)) (first | with_reducible exact h5 | with_reducible exact h6 | with_reducible exact hel _ hc)
      (first
        | (go_at_call 57; ((with_reducible refine (k0.out _).mono ?_); rintro e wn ⟨rfl, hwn⟩; subst hwn))
        | (go_at_call 57; ((with_reducible refine (k1.out _).mono ?_); rintro e wn ⟨rfl, hwn⟩; subst hwn))
        | (go_at_call 58; ((with_reducible refine (k5.out _).mono ?_); rintro e wn ⟨rfl, hwn⟩; subst hwn))
        | (go_at_call 60; ((with_reducible refine (kP.out _).mono ?_); rintro e wa ⟨PA, pc, rfl, SA, hba⟩; replace hc := hc.trans (hba.mono hc.size); clear hba))
        | (go_at_call 60; ((with_reducible refine (kX.out _).mono ?_); rintro e wb ⟨QA, qc, rfl, SB, hbb⟩; replace SA := (SA.below hbb).more hbb.size; replace hc := hc.trans (hbb.mono hc.size); clear hbb))
        | (go_at_call 59; ((with_reducible refine (kL.out _ PA QA pc qc SA SB).mono ?_); rintro e wd ⟨rfl, hbd⟩; replace hc := hc.trans (hbd.mono hc.size); clear hbd)))
    all_goals exact hQ _ _ _ _ _ _ _ _ _ _ _ _ _ _ _ _ _ _ _ _ _ _ _ _ _ _ _ _ _ _ _ _ _ _ _ _ _ _ _ _ _ _ _ _ _ _ _ _ _ _ _ _ false HF.out hc
set_option maxHeartbeats 32000000 in
theorem v16_reg1 {Q : Exit → Act → World → Prop} {cd : Code} {dl : List Deferred} {Z0 Z2 Z3 Z4 Z7 Z8 Z9 Za Zb Zc Zd Ze Zf Zg Zh Zi Zj Zk Zl Zm Zn Zo Zp Zq Zr Zs Zt Zu Zv Zw Zx Zy Zz Z10 Z11 Z12 Z13 Z14 Z15 Z16 Z17 Z18 Z19 Z1a Z1b Z1c Z1d Z1e Z1f Z1g Z1h Z1i Z1j Z1k Z1l Z1m Z1n Z1o Z1p Z1q Z1r Z1s Z1t Z1u Z1v Z1w Z1x Z1y Z1z Z20 Z21 Z22 Z23 Z24 Z25 Z26 Z27 Z28 Z29 Z2a Z2b Z2c Z2d Z2e Z2f Z2g Z2h Z2i Z2j Z2k Z2l Z2m Z2n Z2o Z2p Z2q Z2r Z2s Z2t Z2u Z2v Z2w Z2x Z2y Z2z Z30 Z31 Z32 Z33 Z34 Z35 Z36 Z37 Z38 Z39 Z3a Z3b Z3c Z3d Z3e Z3f Z3g Z3h Z3i Z3j Z3k Z3l Z3m Z3n Z3o Z3p Z3q Z3r Z3s Z3t Z3u Z3v Z3w Z3x Z3y Z3z Z40 Z41 Z42 Z43 Z44 Z45 Z46 Z47 Z48 Z49 Z4a Z4b Z4c Z4d Z4e Z4f Z4g Z4h Z4i Z4j Z4k Z4l Z4m Z4n Z4o Z4p Z4q Z4r Z4s Z4t Z4u Z4v Z4w Z4x Z4y Z4z Z50 Z51 Z52 Z53 Z54 Z55 Z56 Z57 Z58 Z59 Z5a Z5b Z5c Z5d Z5e Z5f Z5g Z5h Z5i Z5j Z5k Z5l Z5m Z5n : Value} (XA YA ZA : Option Addr) (xc yc zc : Nat) (ps ls : List P5) (cs : List P4) (X : World) (br bx k : Nat) (x : P5) (xa : Box X br #[.slice XA ps.length xc, .slice YA ls.length yc, .slice ZA cs.length zc] 30) (u0 : Box X bx (p5c x) 68) (hA : Sl 5 p5cell X X.heap.size YA ls) (hlt : k < ls.length) (hx : ls[k] = x) (hm : ls.length ≤ 1024) (hcd : (Tryz.f17.body.bind (regionOf 13)) = some cd)
    (hQ : ∀ (y101 y102 y103 y104 y105 y106 y107 y108 y109 y110 y111 y112 y113 y114 y115 y116 y117 y118 y119 y120 y121 y122 y123 y124 y125 y126 y127 y128 y129 y130 y131 y132 y133 y134 y135 y136 y137 y138 y139 y140 y141 y142 y143 y144 y145 y146 y147 y148 y149 y150 y151 : Value) (wo : World) (r : Bool), r = !M.vstep M.vLoad M.cmp5 ls k → Below X.heap.size X wo → Q .normal ⟨#[Z0,.pointer (some ⟨br, 0, none⟩),Z2,Z3,Z4,.int .i64 k,.pointer (some ⟨bx, 0, none⟩),Z7,Z8,Z9,Za,Zb,Zc,Zd,Ze,Zf,Zg,Zh,Zi,Zj,Zk,Zl,Zm,Zn,Zo,Zp,Zq,Zr,Zs,Zt,Zu,Zv,Zw,Zx,Zy,Zz,Z10,Z11,Z12,Z13,Z14,Z15,Z16,Z17,Z18,Z19,Z1a,Z1b,Z1c,Z1d,Z1e,Z1f,Z1g,Z1h,Z1i,Z1j,Z1k,Z1l,Z1m,Z1n,Z1o,Z1p,Z1q,Z1r,Z1s,Z1t,Z1u,Z1v,Z1w,Z1x,Z1y,Z1z,Z20,Z21,Z22,Z23,Z24,Z25,Z26,Z27,Z28,Z29,Z2a,Z2b,Z2c,Z2d,Z2e,Z2f,Z2g,Z2h,Z2i,Z2j,Z2k,Z2l,Z2m,Z2n,Z2o,Z2p,Z2q,Z2r,Z2s,y101,y102,y103,y104,y105,y106,y107,y108,y109,y110,y111,y112,y113,y114,y115,y116,y117,y118,y119,y120,y121,y122,y123,y124,y125,y126,y127,y128,y129,y130,y131,y132,y133,y134,y135,y136,y137,y138,y139,y140,y141,y142,y143,y144,y145,y146,y147,y148,y149,y150,y151,.bool r,Z49,Z4a,Z4b,Z4c,Z4d,Z4e,Z4f,Z4g,Z4h,Z4i,Z4j,Z4k,Z4l,Z4m,Z4n,Z4o,Z4p,Z4q,Z4r,Z4s,Z4t,Z4u,Z4v,Z4w,Z4x,Z4y,Z4z,Z50,Z51,Z52,Z53,Z54,Z55,Z56,Z57,Z58,Z59,Z5a,Z5b,Z5c,Z5d,Z5e,Z5f,Z5g,Z5h,Z5i,Z5j,Z5k,Z5l,Z5m,Z5n], dl⟩ wo) :
    cd.wp Tryz.prog Q ⟨#[Z0,.pointer (some ⟨br, 0, none⟩),Z2,Z3,Z4,.int .i64 k,.pointer (some ⟨bx, 0, none⟩),Z7,Z8,Z9,Za,Zb,Zc,Zd,Ze,Zf,Zg,Zh,Zi,Zj,Zk,Zl,Zm,Zn,Zo,Zp,Zq,Zr,Zs,Zt,Zu,Zv,Zw,Zx,Zy,Zz,Z10,Z11,Z12,Z13,Z14,Z15,Z16,Z17,Z18,Z19,Z1a,Z1b,Z1c,Z1d,Z1e,Z1f,Z1g,Z1h,Z1i,Z1j,Z1k,Z1l,Z1m,Z1n,Z1o,Z1p,Z1q,Z1r,Z1s,Z1t,Z1u,Z1v,Z1w,Z1x,Z1y,Z1z,Z20,Z21,Z22,Z23,Z24,Z25,Z26,Z27,Z28,Z29,Z2a,Z2b,Z2c,Z2d,Z2e,Z2f,Z2g,Z2h,Z2i,Z2j,Z2k,Z2l,Z2m,Z2n,Z2o,Z2p,Z2q,Z2r,Z2s,Z2t,Z2u,Z2v,Z2w,Z2x,Z2y,Z2z,Z30,Z31,Z32,Z33,Z34,Z35,Z36,Z37,Z38,Z39,Z3a,Z3b,Z3c,Z3d,Z3e,Z3f,Z3g,Z3h,Z3i,Z3j,Z3k,Z3l,Z3m,Z3n,Z3o,Z3p,Z3q,Z3r,Z3s,Z3t,Z3u,Z3v,Z3w,Z3x,Z3y,Z3z,Z40,Z41,Z42,Z43,Z44,Z45,Z46,Z47,Z48,Z49,Z4a,Z4b,Z4c,Z4d,Z4e,Z4f,Z4g,Z4h,Z4i,Z4j,Z4k,Z4l,Z4m,Z4n,Z4o,Z4p,Z4q,Z4r,Z4s,Z4t,Z4u,Z4v,Z4w,Z4x,Z4y,Z4z,Z50,Z51,Z52,Z53,Z54,Z55,Z56,Z57,Z58,Z59,Z5a,Z5b,Z5c,Z5d,Z5e,Z5f,Z5g,Z5h,Z5i,Z5j,Z5k,Z5l,Z5m,Z5n], dl⟩ X := by
  rw [show (Tryz.f17.body.bind (regionOf 13)) = some (Code.region 13 _ true) from rfl] at hcd
  obtain rfl := Option.some.inj hcd
  clear hcd
  dsimp only at hQ ⊢
  have HV0 : Hid (M.vLoad x = false → true = !M.vstep M.vLoad M.cmp5 ls k) := Lib.hid (fun h => by rw [M.vstep0 hlt (by rw [hx]; exact h)]; rfl)
  have HVF : Hid (M.vLoad x = true → ¬ 0 < k → false = !M.vstep M.vLoad M.cmp5 ls k) := Lib.hid (fun h h0 => by rw [M.vstepF hlt (by rw [hx]; exact h) h0]; rfl)
  have HVT : Hid (∀ j (h0 : k = j + 1), M.vLoad x = true → M.lessI (ls[j]'(by omega)).l x.l = true → false = !M.vstep M.vLoad M.cmp5 ls k) := Lib.hid (fun j h0 h h2 => by rw [M.vstepL5 hlt (by rw [hx]; exact h) h0, hx, h2]; rfl)
  have HVN : Hid (∀ j (h0 : k = j + 1), M.vLoad x = true → M.lessI (ls[j]'(by omega)).l x.l = false → true = !M.vstep M.vLoad M.cmp5 ls k) := Lib.hid (fun j h0 h h2 => by rw [M.vstepL5 hlt (by rw [hx]; exact h) h0, hx, h2]; rfl)
  generalize M.vstep M.vLoad M.cmp5 ls k = vs at *
  clear hx
  obtain ⟨la, hla, hlb, -, -⟩ := hA.sp (by decide) hlt
  obtain ⟨m0, m1, m2, m3, m4⟩ : X.cell? ⟨bx, 0, none⟩ = some (.int .i64 x.a) ∧ X.cell? ⟨bx, 1, none⟩ = some (.int .i64 x.b) ∧ X.cell? ⟨bx, 2, none⟩ = some (.int .i64 x.c) ∧ X.cell? ⟨bx, 3, none⟩ = some (.int .i64 x.d) ∧ X.cell? ⟨bx, 4, none⟩ = some (.int .i64 x.e) := ⟨u0.cell 0 rfl, u0.cell 1 rfl, u0.cell 2 rfl, u0.cell 3 rfl, u0.cell 4 rfl⟩
  obtain ⟨t0, t1, t2⟩ := xa.c3
  have lV := xa.lt
  have l0 := u0.lt
  have g0 : (0 : Int) ≤ (k : Int) := by omega
  have g1 : (k : Int) < (ls.length : Int) := by omega
  have kq0 := fun w1 => number16_ok x.a w1
  cases c0 : M.isIn16 x.a 0 511
  case false =>
    rw [c0] at kq0
    have k0 := Lib.hid kq0
    clear kq0
    have HF := Lib.hid (HV0.out (Bool.eq_false_iff.2 (fun h => by have h2 := (M.vLoad_iff.1 h).1; rw [c0] at h2; exact Bool.noConfusion h2)))
    refine wp_region_kept X.heap.size X (by kernel_rfl) (by kernel_rfl) (Below.refl _ _) ?_
    repeat (go_big_quiet_step (first | (go_at_call 57; with_reducible exact Kept.same (k0.out _))))
    refine wpQuiet_nil ?_
    rintro w5 ⟨⟨w5x, hb5⟩, hw5⟩
    dsimp only at hw5
    subst hw5
    exact hQ _ _ _ _ _ _ _ _ _ _ _ _ _ _ _ _ _ _ _ _ _ _ _ _ _ _ _ _ _ _ _ _ _ _ _ _ _ _ _ _ _ _ _ _ _ _ _ _ _ _ _ _ true HF.out hb5
  rw [c0] at kq0
  have k0 := Lib.hid kq0
  clear kq0
  replace c0 := Lib.hid c0
  have kq1 := fun w1 => number16_ok x.b w1
  cases c1 : M.isIn16 x.b 0 511
  case false =>
    rw [c1] at kq1
    have k1 := Lib.hid kq1
    clear kq1
    have HF := Lib.hid (HV0.out (Bool.eq_false_iff.2 (fun h => by have h2 := (M.vLoad_iff.1 h).2.1; rw [c1] at h2; exact Bool.noConfusion h2)))
    refine wp_region_kept X.heap.size X (by kernel_rfl) (by kernel_rfl) (Below.refl _ _) ?_
    repeat (go_big_quiet_step (first | (go_at_call 57; with_reducible exact Kept.same (k0.out _)) | (go_at_call 57; with_reducible exact Kept.same (k1.out _))))
    refine wpQuiet_nil ?_
    rintro w5 ⟨⟨w5x, hb5⟩, hw5⟩
    dsimp only at hw5
    subst hw5
    exact hQ _ _ _ _ _ _ _ _ _ _ _ _ _ _ _ _ _ _ _ _ _ _ _ _ _ _ _ _ _ _ _ _ _ _ _ _ _ _ _ _ _ _ _ _ _ _ _ _ _ _ _ _ true HF.out hb5
  rw [c1] at kq1
  have k1 := Lib.hid kq1
  clear kq1
  replace c1 := Lib.hid c1
  by_cases c2 : x.a = x.b
  case pos =>
    have d2 : (x.a == x.b) = true := by simp [c2]
    have HF := Lib.hid (HV0.out (Bool.eq_false_iff.2 (fun h => (M.vLoad_iff.1 h).2.2.1 c2)))
    clear c2
    refine wp_region_kept X.heap.size X (by kernel_rfl) (by kernel_rfl) (Below.refl _ _) ?_
    repeat (go_big_quiet_step (first | (go_at_call 57; with_reducible exact Kept.same (k0.out _)) | (go_at_call 57; with_reducible exact Kept.same (k1.out _))))
    refine wpQuiet_nil ?_
    rintro w5 ⟨⟨w5x, hb5⟩, hw5⟩
    dsimp only at hw5
    subst hw5
    exact hQ _ _ _ _ _ _ _ _ _ _ _ _ _ _ _ _ _ _ _ _ _ _ _ _ _ _ _ _ _ _ _ _ _ _ _ _ _ _ _ _ _ _ _ _ _ _ _ _ _ _ _ _ true HF.out hb5
  have d2 : (x.a == x.b) = false := by simp [c2]
  replace c2 := Lib.hid c2
  by_cases c3 : x.c < 1
  case pos =>
    have d3 : decide (x.c < 1) = true := decide_eq_true c3
    have HF := Lib.hid (HV0.out (Bool.eq_false_iff.2 (fun h => (M.vLoad_iff.1 h).2.2.2.1 c3)))
    clear c3
    refine wp_region_kept X.heap.size X (by kernel_rfl) (by kernel_rfl) (Below.refl _ _) ?_
    repeat (go_big_quiet_step (first | (go_at_call 57; with_reducible exact Kept.same (k0.out _)) | (go_at_call 57; with_reducible exact Kept.same (k1.out _))))
    refine wpQuiet_nil ?_
    rintro w5 ⟨⟨w5x, hb5⟩, hw5⟩
    dsimp only at hw5
    subst hw5
    exact hQ _ _ _ _ _ _ _ _ _ _ _ _ _ _ _ _ _ _ _ _ _ _ _ _ _ _ _ _ _ _ _ _ _ _ _ _ _ _ _ _ _ _ _ _ _ _ _ _ _ _ _ _ true HF.out hb5
  have d3 : decide (x.c < 1) = false := decide_eq_false c3
  replace c3 := Lib.hid c3
  by_cases c4 : 1073741824 < x.c
  case pos =>
    have d4 : decide (1073741824 < x.c) = true := decide_eq_true c4
    have HF := Lib.hid (HV0.out (Bool.eq_false_iff.2 (fun h => (M.vLoad_iff.1 h).2.2.2.2.1 c4)))
    clear c4
    refine wp_region_kept X.heap.size X (by kernel_rfl) (by kernel_rfl) (Below.refl _ _) ?_
    repeat (go_big_quiet_step (first | (go_at_call 57; with_reducible exact Kept.same (k0.out _)) | (go_at_call 57; with_reducible exact Kept.same (k1.out _))))
    refine wpQuiet_nil ?_
    rintro w5 ⟨⟨w5x, hb5⟩, hw5⟩
    dsimp only at hw5
    subst hw5
    exact hQ _ _ _ _ _ _ _ _ _ _ _ _ _ _ _ _ _ _ _ _ _ _ _ _ _ _ _ _ _ _ _ _ _ _ _ _ _ _ _ _ _ _ _ _ _ _ _ _ _ _ _ _ true HF.out hb5
  have d4 : decide (1073741824 < x.c) = false := decide_eq_false c4
  replace c4 := Lib.hid c4
  have kq5 := fun w1 => span16_ok x.d x.e w1
  cases c5 : M.rng x.d x.e
  case false =>
    rw [c5] at kq5
    have k5 := Lib.hid kq5
    clear kq5
    have HF := Lib.hid (HV0.out (Bool.eq_false_iff.2 (fun h => by have h2 := (M.vLoad_iff.1 h).2.2.2.2.2; rw [c5] at h2; exact Bool.noConfusion h2)))
    refine wp_region_kept X.heap.size X (by kernel_rfl) (by kernel_rfl) (Below.refl _ _) ?_
    repeat (go_big_quiet_step (first | (go_at_call 57; with_reducible exact Kept.same (k0.out _)) | (go_at_call 57; with_reducible exact Kept.same (k1.out _)) | (go_at_call 58; with_reducible exact Kept.same (k5.out _))))
    refine wpQuiet_nil ?_
    rintro w5 ⟨⟨w5x, hb5⟩, hw5⟩
    dsimp only at hw5
    subst hw5
    exact hQ _ _ _ _ _ _ _ _ _ _ _ _ _ _ _ _ _ _ _ _ _ _ _ _ _ _ _ _ _ _ _ _ _ _ _ _ _ _ _ _ _ _ _ _ _ _ _ _ _ _ _ _ true HF.out hb5
  rw [c5] at kq5
  have k5 := Lib.hid kq5
  clear kq5
  replace c5 := Lib.hid c5
  have hv := M.vLoad_iff.2 ⟨c0.out, c1.out, c2.out, c3.out, c4.out, c5.out⟩
  clear c0 c1 c2 c3 c4 c5
  by_cases h0 : 0 < k
  case neg =>
    have HF := Lib.hid (HVF.out hv h0)
    have hk0 : decide ((0 : Int) < (k : Int)) = false := decide_eq_false (by omega)
    have hk0' : decide (0 < k) = false := decide_eq_false h0
    clear h0 hv
    refine wp_region_kept X.heap.size X (by kernel_rfl) (by kernel_rfl) (Below.refl _ _) ?_
    repeat (go_big_quiet_step (first | (go_at_call 57; with_reducible exact Kept.same (k0.out _)) | (go_at_call 57; with_reducible exact Kept.same (k1.out _)) | (go_at_call 58; with_reducible exact Kept.same (k5.out _))))
    refine wpQuiet_nil ?_
    rintro w5 ⟨⟨w5x, hb5⟩, hw5⟩
    dsimp only at hw5
    subst hw5
    exact hQ _ _ _ _ _ _ _ _ _ _ _ _ _ _ _ _ _ _ _ _ _ _ _ _ _ _ _ _ _ _ _ _ _ _ _ _ _ _ _ _ _ _ _ _ _ _ _ _ _ _ _ _ false HF.out hb5
  obtain ⟨pj, hpj⟩ : ∃ j, k = j + 1 := ⟨k - 1, by omega⟩
  obtain ⟨la2, hla2, hlb2, b0, hj2⟩ := hA.sp (k := pj) (by decide) (by omega)
  obtain rfl : la = la2 := Option.some.inj (hla.symm.trans hla2)
  have b1 := hj2 1 (by decide) (by decide)
  have b2 := hj2 2 (by decide) (by decide)
  have b3 := hj2 3 (by decide) (by decide)
  have b4 := hj2 4 (by decide) (by decide)
  clear hj2 hla2
  have HT2 := Lib.hid (HVT.out pj hpj hv)
  have HN2 := Lib.hid (HVN.out pj hpj hv)
  obtain ⟨y, hy⟩ : ∃ y, ls[pj]'(by omega) = y := ⟨_, rfl⟩
  rw [hy] at b0 b1 b2 b3 b4 HT2 HN2
  clear hy
  simp only [p5cell] at b0 b1 b2 b3 b4
  have hk0 : decide ((0 : Int) < (k : Int)) = true := decide_eq_true (by omega)
  have hk0' : decide (0 < k) = true := decide_eq_true h0
  have hwk : IntKind.i64.wrap ((k : Int) - 1) = (pj : Int) := by rw [show (k : Int) - 1 = (pj : Int) by omega]; exact wrap_small (by omega) (by omega)
  have s1 : (0 : Int) ≤ (pj : Int) := by omega
  have s2 : (pj : Int) < (ls.length : Int) := by omega
  have hel : ∀ wx, Below X.heap.size X wx → wx.cell? ⟨br, 1, none⟩ = some (.slice YA ls.length yc) ∧ wx.cell? ⟨bx, 0, none⟩ = some (.int .i64 x.a) ∧ wx.cell? ⟨bx, 1, none⟩ = some (.int .i64 x.b) ∧ wx.cell? ⟨bx, 2, none⟩ = some (.int .i64 x.c) ∧ wx.cell? ⟨bx, 3, none⟩ = some (.int .i64 x.d) ∧ wx.cell? ⟨bx, 4, none⟩ = some (.int .i64 x.e) ∧ wx.cell? (la.add (pj * 5)) = some (.int .i64 y.a) ∧ wx.cell? ⟨(la.add (pj * 5)).block, (la.add (pj * 5)).off + 1, none⟩ = some (.int .i64 y.b) ∧ wx.cell? ⟨(la.add (pj * 5)).block, (la.add (pj * 5)).off + 2, none⟩ = some (.int .i64 y.c) ∧ wx.cell? ⟨(la.add (pj * 5)).block, (la.add (pj * 5)).off + 3, none⟩ = some (.int .i64 y.d) ∧ wx.cell? ⟨(la.add (pj * 5)).block, (la.add (pj * 5)).off + 4, none⟩ = some (.int .i64 y.e) := fun wx hbx => by
    obtain ⟨t0, t1, t2⟩ := (xa.below hbx).c3
    exact ⟨t1, (u0.below hbx).cell 0 rfl, (u0.below hbx).cell 1 rfl, (u0.below hbx).cell 2 rfl, (u0.below hbx).cell 3 rfl, (u0.below hbx).cell 4 rfl, (hbx.cell (p := (la.add (pj * 5))) hlb2).trans b0, (hbx.cell (p := ⟨(la.add (pj * 5)).block, (la.add (pj * 5)).off + 1, none⟩) hlb2).trans b1, (hbx.cell (p := ⟨(la.add (pj * 5)).block, (la.add (pj * 5)).off + 2, none⟩) hlb2).trans b2, (hbx.cell (p := ⟨(la.add (pj * 5)).block, (la.add (pj * 5)).off + 3, none⟩) hlb2).trans b3, (hbx.cell (p := ⟨(la.add (pj * 5)).block, (la.add (pj * 5)).off + 4, none⟩) hlb2).trans b4⟩
  have hc : Below X.heap.size X X.drew := (Below.refl _ _).drew
  have h5 := hel _ hc
  have h6 := hel _ (Below.refl _ _)
  clear h0 hv HVT HVN HVF HV0 hpj
  cases hls : M.lessI y.l x.l
  case false =>
    have HF := Lib.hid (HN2.out hls)
    have kP : Hid (∀ wx, Calls Tryz.prog 61 #[p5v y] wx (RetS 1 icell wx y.l)) := Lib.hid (fun wx => load16_any y wx)
    have kX : Hid (∀ wx, Calls Tryz.prog 61 #[p5v x] wx (RetS 1 icell wx x.l)) := Lib.hid (fun wx => load16_any x wx)
    have kL : Hid (∀ wx PA QA pc qc, Sl 1 icell wx wx.heap.size PA y.l → Sl 1 icell wx wx.heap.size QA x.l → Calls Tryz.prog 59 #[.slice PA y.l.length pc, .slice QA x.l.length qc] wx fun e w' => e = .returned (.bool false) ∧ Below wx.heap.size wx w') := Lib.hid (fun wx PA QA pc qc h1 h2 => by rw [← hls]; exact less16_any PA QA pc qc y.l x.l wx h1 h2 rfl (by show 5 ≤ 1000; decide))
    clear hls HT2 HN2
    subst hla
    go_region_held3 (fun w' => w'.cell? ⟨br, 1, none⟩ = some (.slice (some la) ls.length yc) ∧ w'.cell? ⟨bx, 0, none⟩ = some (.int .i64 x.a) ∧ w'.cell? ⟨bx, 1, none⟩ = some (.int .i64 x.b) ∧ w'.cell? ⟨bx, 2, none⟩ = some (.int .i64 x.c) ∧ w'.cell? ⟨bx, 3, none⟩ = some (.int .i64 x.d) ∧ w'.cell? ⟨bx, 4, none⟩ = some (.int .i64 x.e) ∧ w'.cell? (la.add (pj * 5)) = some (.int .i64 y.a) ∧ w'.cell? ⟨(la.add (pj * 5)).block, (la.add (pj * 5)).off + 1, none⟩ = some (.int .i64 y.b) ∧ w'.cell? ⟨(la.add (pj * 5)).block, (la.add (pj * 5)).off + 2, none⟩ = some (.int .i64 y.c) ∧ w'.cell? ⟨(la.add (pj * 5)).block, (la.add (pj * 5)).off + 3, none⟩ = some (.int .i64 y.d) ∧ w'.cell? ⟨(la.add (pj * 5)).block, (la.add (pj * 5)).off + 4, none⟩ = some (.int .i64 y.e)) (first | with_reducible exact h5 | with_reducible exact h6 | with_reducible exact hel _ hc)
      (first
        | (go_at_call 57; ((with_reducible refine (k0.out _).mono ?_); rintro e wn ⟨rfl, hwn⟩; subst hwn))
        | (go_at_call 57; ((with_reducible refine (k1.out _).mono ?_); rintro e wn ⟨rfl, hwn⟩; subst hwn))
        | (go_at_call 58; ((with_reducible refine (k5.out _).mono ?_); rintro e wn ⟨rfl, hwn⟩; subst hwn))
        | (go_at_call 61; ((with_reducible refine (kP.out _).mono ?_); rintro e wa ⟨PA, pc, rfl, SA, hba⟩; replace hc := hc.trans (hba.mono hc.size); clear hba))
        | (go_at_call 61; ((with_reducible refine (kX.out _).mono ?_); rintro e wb ⟨QA, qc, rfl, SB, hbb⟩; replace SA := (SA.below hbb).more hbb.size; replace hc := hc.trans (hbb.mono hc.size); clear hbb))
        | (go_at_call 59; ((with_reducible refine (kL.out _ PA QA pc qc SA SB).mono ?_); rintro e wd ⟨rfl, hbd⟩; replace hc := hc.trans (hbd.mono hc.size); clear hbd)))
    all_goals exact hQ _ _ _ _ _ _ _ _ _ _ _ _ _ _ _ _ _ _ _ _ _ _ _ _ _ _ _ _ _ _ _ _ _ _ _ _ _ _ _ _ _ _ _ _ _ _ _ _ _ _ _ _ true HF.out hc
  case true =>
    have HF := Lib.hid (HT2.out hls)
    have kP : Hid (∀ wx, Calls Tryz.prog 61 #[p5v y] wx (RetS 1 icell wx y.l)) := Lib.hid (fun wx => load16_any y wx)
    have kX : Hid (∀ wx, Calls Tryz.prog 61 #[p5v x] wx (RetS 1 icell wx x.l)) := Lib.hid (fun wx => load16_any x wx)
    have kL : Hid (∀ wx PA QA pc qc, Sl 1 icell wx wx.heap.size PA y.l → Sl 1 icell wx wx.heap.size QA x.l → Calls Tryz.prog 59 #[.slice PA y.l.length pc, .slice QA x.l.length qc] wx fun e w' => e = .returned (.bool true) ∧ Below wx.heap.size wx w') := Lib.hid (fun wx PA QA pc qc h1 h2 => by rw [← hls]; exact less16_any PA QA pc qc y.l x.l wx h1 h2 rfl (by show 5 ≤ 1000; decide))
    clear hls HT2 HN2
    subst hla
    go_region_held3 (fun w' => w'.cell? ⟨br, 1, none⟩ = some (.slice (some la) ls.length yc) ∧ w'.cell? ⟨bx, 0, none⟩ = some (.int .i64 x.a) ∧ w'.cell? ⟨bx, 1, none⟩ = some (.int .i64 x.b) ∧ w'.cell? ⟨bx, 2, none⟩ = some (.int .i64 x.c) ∧ w'.cell? ⟨bx, 3, none⟩ = some (.int .i64 x.d) ∧ w'.cell? ⟨bx, 4, none⟩ = some (.int .i64 x.e) ∧ w'.cell? (la.add (pj * 5)) = some (.int .i64 y.a) ∧ w'.cell? ⟨(la.add (pj * 5)).block, (la.add (pj * 5)).off + 1, none⟩ = some (.int .i64 y.b) ∧ w'.cell? ⟨(la.add (pj * 5)).block, (la.add (pj * 5)).off + 2, none⟩ = some (.int .i64 y.c) ∧ w'.cell? ⟨(la.add (pj * 5)).block, (la.add (pj * 5)).off + 3, none⟩ = some (.int .i64 y.d) ∧ w'.cell? ⟨(la.add (pj * 5)).block, (la.add (pj * 5)).off + 4, none⟩ = some (.int .i64 y.e)) (first | with_reducible exact h5 | with_reducible exact h6 | with_reducible exact hel _ hc)
      (first
        | (go_at_call 57; ((with_reducible refine (k0.out _).mono ?_); rintro e wn ⟨rfl, hwn⟩; subst hwn))
        | (go_at_call 57; ((with_reducible refine (k1.out _).mono ?_); rintro e wn ⟨rfl, hwn⟩; subst hwn))
        | (go_at_call 58; ((with_reducible refine (k5.out _).mono ?_); rintro e wn ⟨rfl, hwn⟩; subst hwn))
        | (go_at_call 61; ((with_reducible refine (kP.out _).mono ?_); rintro e wa ⟨PA, pc, rfl, SA, hba⟩; replace hc := hc.trans (hba.mono hc.size); clear hba))
        | (go_at_call 61; ((with_reducible refine (kX.out _).mono ?_); rintro e wb ⟨QA, qc, rfl, SB, hbb⟩; replace SA := (SA.below hbb).more hbb.size; replace hc := hc.trans (hbb.mono hc.size); clear hbb))
        | (go_at_call 59; ((with_reducible refine (kL.out _ PA QA pc qc SA SB).mono ?_); rintro e wd ⟨rfl, hbd⟩; replace hc := hc.trans (hbd.mono hc.size); clear hbd)))
    all_goals exact hQ _ _ _ _ _ _ _ _ _ _ _ _ _ _ _ _ _ _ _ _ _ _ _ _ _ _ _ _ _ _ _ _ _ _ _ _ _ _ _ _ _ _ _ _ _ _ _ _ _ _ _ _ false HF.out hc
set_option maxHeartbeats 32000000 in
theorem v16_reg2 {Q : Exit → Act → World → Prop} {cd : Code} {dl : List Deferred} {Z0 Z2 Z3 Z4 Z5 Z6 Z9 Za Zb Zc Zd Ze Zf Zg Zh Zi Zj Zk Zl Zm Zn Zo Zp Zq Zr Zs Zt Zu Zv Zw Zx Zy Zz Z10 Z11 Z12 Z13 Z14 Z15 Z16 Z17 Z18 Z19 Z1a Z1b Z1c Z1d Z1e Z1f Z1g Z1h Z1i Z1j Z1k Z1l Z1m Z1n Z1o Z1p Z1q Z1r Z1s Z1t Z1u Z1v Z1w Z1x Z1y Z1z Z20 Z21 Z22 Z23 Z24 Z25 Z26 Z27 Z28 Z29 Z2a Z2b Z2c Z2d Z2e Z2f Z2g Z2h Z2i Z2j Z2k Z2l Z2m Z2n Z2o Z2p Z2q Z2r Z2s Z2t Z2u Z2v Z2w Z2x Z2y Z2z Z30 Z31 Z32 Z33 Z34 Z35 Z36 Z37 Z38 Z39 Z3a Z3b Z3c Z3d Z3e Z3f Z3g Z3h Z3i Z3j Z3k Z3l Z3m Z3n Z3o Z3p Z3q Z3r Z3s Z3t Z3u Z3v Z3w Z3x Z3y Z3z Z40 Z41 Z42 Z43 Z44 Z45 Z46 Z47 Z48 Z49 Z4a Z4b Z4c Z4d Z4e Z4f Z4g Z4h Z4i Z4j Z4k Z4l Z4m Z4n Z4o Z4p Z4q Z4r Z4s Z4t Z4u Z4v Z4w Z4x Z4y Z4z Z50 Z51 Z52 Z53 Z54 Z55 Z56 Z57 Z58 Z59 Z5a Z5b Z5c Z5d Z5e Z5f Z5g Z5h Z5i Z5j Z5k Z5l Z5m Z5n : Value} (XA YA ZA : Option Addr) (xc yc zc : Nat) (ps ls : List P5) (cs : List P4) (X : World) (br bx k : Nat) (x : P4) (xa : Box X br #[.slice XA ps.length xc, .slice YA ls.length yc, .slice ZA cs.length zc] 30) (u0 : Box X bx (p4c x) 71) (hA : Sl 4 p4cell X X.heap.size ZA cs) (hlt : k < cs.length) (hx : cs[k] = x) (hm : cs.length ≤ 1024) (hcd : (Tryz.f17.body.bind (regionOf 19)) = some cd)
    (hQ : ∀ (y165 y166 y167 y168 y169 y170 y171 y172 y173 y174 y175 y176 y177 y178 y179 y180 y181 y182 y183 y184 y185 y186 y187 y188 y189 y190 y191 y192 y193 y194 y195 y196 y197 y198 y199 y200 y201 y202 : Value) (wo : World) (r : Bool), r = !M.vstep M.vCap M.cmp4 cs k → Below X.heap.size X wo → Q .normal ⟨#[Z0,.pointer (some ⟨br, 0, none⟩),Z2,Z3,Z4,Z5,Z6,.int .i64 k,.pointer (some ⟨bx, 0, none⟩),Z9,Za,Zb,Zc,Zd,Ze,Zf,Zg,Zh,Zi,Zj,Zk,Zl,Zm,Zn,Zo,Zp,Zq,Zr,Zs,Zt,Zu,Zv,Zw,Zx,Zy,Zz,Z10,Z11,Z12,Z13,Z14,Z15,Z16,Z17,Z18,Z19,Z1a,Z1b,Z1c,Z1d,Z1e,Z1f,Z1g,Z1h,Z1i,Z1j,Z1k,Z1l,Z1m,Z1n,Z1o,Z1p,Z1q,Z1r,Z1s,Z1t,Z1u,Z1v,Z1w,Z1x,Z1y,Z1z,Z20,Z21,Z22,Z23,Z24,Z25,Z26,Z27,Z28,Z29,Z2a,Z2b,Z2c,Z2d,Z2e,Z2f,Z2g,Z2h,Z2i,Z2j,Z2k,Z2l,Z2m,Z2n,Z2o,Z2p,Z2q,Z2r,Z2s,Z2t,Z2u,Z2v,Z2w,Z2x,Z2y,Z2z,Z30,Z31,Z32,Z33,Z34,Z35,Z36,Z37,Z38,Z39,Z3a,Z3b,Z3c,Z3d,Z3e,Z3f,Z3g,Z3h,Z3i,Z3j,Z3k,Z3l,Z3m,Z3n,Z3o,Z3p,Z3q,Z3r,Z3s,Z3t,Z3u,Z3v,Z3w,Z3x,Z3y,Z3z,Z40,Z41,Z42,Z43,Z44,Z45,Z46,Z47,Z48,Z49,Z4a,Z4b,Z4c,Z4d,Z4e,Z4f,Z4g,Z4h,Z4i,Z4j,Z4k,y165,y166,y167,y168,y169,y170,y171,y172,y173,y174,y175,y176,y177,y178,y179,y180,y181,y182,y183,y184,y185,y186,y187,y188,y189,y190,y191,y192,y193,y194,y195,y196,y197,y198,y199,y200,y201,y202,.bool r], dl⟩ wo) :
    cd.wp Tryz.prog Q ⟨#[Z0,.pointer (some ⟨br, 0, none⟩),Z2,Z3,Z4,Z5,Z6,.int .i64 k,.pointer (some ⟨bx, 0, none⟩),Z9,Za,Zb,Zc,Zd,Ze,Zf,Zg,Zh,Zi,Zj,Zk,Zl,Zm,Zn,Zo,Zp,Zq,Zr,Zs,Zt,Zu,Zv,Zw,Zx,Zy,Zz,Z10,Z11,Z12,Z13,Z14,Z15,Z16,Z17,Z18,Z19,Z1a,Z1b,Z1c,Z1d,Z1e,Z1f,Z1g,Z1h,Z1i,Z1j,Z1k,Z1l,Z1m,Z1n,Z1o,Z1p,Z1q,Z1r,Z1s,Z1t,Z1u,Z1v,Z1w,Z1x,Z1y,Z1z,Z20,Z21,Z22,Z23,Z24,Z25,Z26,Z27,Z28,Z29,Z2a,Z2b,Z2c,Z2d,Z2e,Z2f,Z2g,Z2h,Z2i,Z2j,Z2k,Z2l,Z2m,Z2n,Z2o,Z2p,Z2q,Z2r,Z2s,Z2t,Z2u,Z2v,Z2w,Z2x,Z2y,Z2z,Z30,Z31,Z32,Z33,Z34,Z35,Z36,Z37,Z38,Z39,Z3a,Z3b,Z3c,Z3d,Z3e,Z3f,Z3g,Z3h,Z3i,Z3j,Z3k,Z3l,Z3m,Z3n,Z3o,Z3p,Z3q,Z3r,Z3s,Z3t,Z3u,Z3v,Z3w,Z3x,Z3y,Z3z,Z40,Z41,Z42,Z43,Z44,Z45,Z46,Z47,Z48,Z49,Z4a,Z4b,Z4c,Z4d,Z4e,Z4f,Z4g,Z4h,Z4i,Z4j,Z4k,Z4l,Z4m,Z4n,Z4o,Z4p,Z4q,Z4r,Z4s,Z4t,Z4u,Z4v,Z4w,Z4x,Z4y,Z4z,Z50,Z51,Z52,Z53,Z54,Z55,Z56,Z57,Z58,Z59,Z5a,Z5b,Z5c,Z5d,Z5e,Z5f,Z5g,Z5h,Z5i,Z5j,Z5k,Z5l,Z5m,Z5n], dl⟩ X := by
  rw [show (Tryz.f17.body.bind (regionOf 19)) = some (Code.region 19 _ true) from rfl] at hcd
  obtain rfl := Option.some.inj hcd
  clear hcd
  dsimp only at hQ ⊢
  have HV0 : Hid (M.vCap x = false → true = !M.vstep M.vCap M.cmp4 cs k) := Lib.hid (fun h => by rw [M.vstep0 hlt (by rw [hx]; exact h)]; rfl)
  have HVF : Hid (M.vCap x = true → ¬ 0 < k → false = !M.vstep M.vCap M.cmp4 cs k) := Lib.hid (fun h h0 => by rw [M.vstepF hlt (by rw [hx]; exact h) h0]; rfl)
  have HVT : Hid (∀ j (h0 : k = j + 1), M.vCap x = true → M.lessI (cs[j]'(by omega)).l x.l = true → false = !M.vstep M.vCap M.cmp4 cs k) := Lib.hid (fun j h0 h h2 => by rw [M.vstepL4 hlt (by rw [hx]; exact h) h0, hx, h2]; rfl)
  have HVN : Hid (∀ j (h0 : k = j + 1), M.vCap x = true → M.lessI (cs[j]'(by omega)).l x.l = false → true = !M.vstep M.vCap M.cmp4 cs k) := Lib.hid (fun j h0 h h2 => by rw [M.vstepL4 hlt (by rw [hx]; exact h) h0, hx, h2]; rfl)
  generalize M.vstep M.vCap M.cmp4 cs k = vs at *
  clear hx
  obtain ⟨la, hla, hlb, -, -⟩ := hA.sp (by decide) hlt
  obtain ⟨m0, m1, m2, m3⟩ : X.cell? ⟨bx, 0, none⟩ = some (.int .i64 x.a) ∧ X.cell? ⟨bx, 1, none⟩ = some (.int .i64 x.b) ∧ X.cell? ⟨bx, 2, none⟩ = some (.int .i64 x.c) ∧ X.cell? ⟨bx, 3, none⟩ = some (.int .i64 x.d) := ⟨u0.cell 0 rfl, u0.cell 1 rfl, u0.cell 2 rfl, u0.cell 3 rfl⟩
  obtain ⟨t0, t1, t2⟩ := xa.c3
  have lV := xa.lt
  have l0 := u0.lt
  have g0 : (0 : Int) ≤ (k : Int) := by omega
  have g1 : (k : Int) < (cs.length : Int) := by omega
  have kq0 := fun w1 => number16_ok x.a w1
  cases c0 : M.isIn16 x.a 0 511
  case false =>
    rw [c0] at kq0
    have k0 := Lib.hid kq0
    clear kq0
    have HF := Lib.hid (HV0.out (Bool.eq_false_iff.2 (fun h => by have h2 := (M.vCap_iff.1 h).1; rw [c0] at h2; exact Bool.noConfusion h2)))
    refine wp_region_kept X.heap.size X (by kernel_rfl) (by kernel_rfl) (Below.refl _ _) ?_
    repeat (go_big_quiet_step (first | (go_at_call 57; with_reducible exact Kept.same (k0.out _))))
    refine wpQuiet_nil ?_
    rintro w5 ⟨⟨w5x, hb5⟩, hw5⟩
    dsimp only at hw5
    subst hw5
    exact hQ _ _ _ _ _ _ _ _ _ _ _ _ _ _ _ _ _ _ _ _ _ _ _ _ _ _ _ _ _ _ _ _ _ _ _ _ _ _ _ true HF.out hb5
  rw [c0] at kq0
  have k0 := Lib.hid kq0
  clear kq0
  replace c0 := Lib.hid c0
  by_cases c1 : x.b < 0
  case pos =>
    have d1 : decide (x.b < 0) = true := decide_eq_true c1
    have HF := Lib.hid (HV0.out (Bool.eq_false_iff.2 (fun h => (M.vCap_iff.1 h).2.1 c1)))
    clear c1
    refine wp_region_kept X.heap.size X (by kernel_rfl) (by kernel_rfl) (Below.refl _ _) ?_
    repeat (go_big_quiet_step (first | (go_at_call 57; with_reducible exact Kept.same (k0.out _))))
    refine wpQuiet_nil ?_
    rintro w5 ⟨⟨w5x, hb5⟩, hw5⟩
    dsimp only at hw5
    subst hw5
    exact hQ _ _ _ _ _ _ _ _ _ _ _ _ _ _ _ _ _ _ _ _ _ _ _ _ _ _ _ _ _ _ _ _ _ _ _ _ _ _ _ true HF.out hb5
  have d1 : decide (x.b < 0) = false := decide_eq_false c1
  replace c1 := Lib.hid c1
  by_cases c2 : 1099511627776 < x.b
  case pos =>
    have d2 : decide (1099511627776 < x.b) = true := decide_eq_true c2
    have HF := Lib.hid (HV0.out (Bool.eq_false_iff.2 (fun h => (M.vCap_iff.1 h).2.2.1 c2)))
    clear c2
    refine wp_region_kept X.heap.size X (by kernel_rfl) (by kernel_rfl) (Below.refl _ _) ?_
    repeat (go_big_quiet_step (first | (go_at_call 57; with_reducible exact Kept.same (k0.out _))))
    refine wpQuiet_nil ?_
    rintro w5 ⟨⟨w5x, hb5⟩, hw5⟩
    dsimp only at hw5
    subst hw5
    exact hQ _ _ _ _ _ _ _ _ _ _ _ _ _ _ _ _ _ _ _ _ _ _ _ _ _ _ _ _ _ _ _ _ _ _ _ _ _ _ _ true HF.out hb5
  have d2 : decide (1099511627776 < x.b) = false := decide_eq_false c2
  replace c2 := Lib.hid c2
  have kq3 := fun w1 => span16_ok x.c x.d w1
  cases c3 : M.rng x.c x.d
  case false =>
    rw [c3] at kq3
    have k3 := Lib.hid kq3
    clear kq3
    have HF := Lib.hid (HV0.out (Bool.eq_false_iff.2 (fun h => by have h2 := (M.vCap_iff.1 h).2.2.2; rw [c3] at h2; exact Bool.noConfusion h2)))
    refine wp_region_kept X.heap.size X (by kernel_rfl) (by kernel_rfl) (Below.refl _ _) ?_
    repeat (go_big_quiet_step (first | (go_at_call 57; with_reducible exact Kept.same (k0.out _)) | (go_at_call 58; with_reducible exact Kept.same (k3.out _))))
    refine wpQuiet_nil ?_
    rintro w5 ⟨⟨w5x, hb5⟩, hw5⟩
    dsimp only at hw5
    subst hw5
    exact hQ _ _ _ _ _ _ _ _ _ _ _ _ _ _ _ _ _ _ _ _ _ _ _ _ _ _ _ _ _ _ _ _ _ _ _ _ _ _ _ true HF.out hb5
  rw [c3] at kq3
  have k3 := Lib.hid kq3
  clear kq3
  replace c3 := Lib.hid c3
  have hv := M.vCap_iff.2 ⟨c0.out, c1.out, c2.out, c3.out⟩
  clear c0 c1 c2 c3
  by_cases h0 : 0 < k
  case neg =>
    have HF := Lib.hid (HVF.out hv h0)
    have hk0 : decide ((0 : Int) < (k : Int)) = false := decide_eq_false (by omega)
    have hk0' : decide (0 < k) = false := decide_eq_false h0
    clear h0 hv
    refine wp_region_kept X.heap.size X (by kernel_rfl) (by kernel_rfl) (Below.refl _ _) ?_
    repeat (go_big_quiet_step (first | (go_at_call 57; with_reducible exact Kept.same (k0.out _)) | (go_at_call 58; with_reducible exact Kept.same (k3.out _))))
    refine wpQuiet_nil ?_
    rintro w5 ⟨⟨w5x, hb5⟩, hw5⟩
    dsimp only at hw5
    subst hw5
    exact hQ _ _ _ _ _ _ _ _ _ _ _ _ _ _ _ _ _ _ _ _ _ _ _ _ _ _ _ _ _ _ _ _ _ _ _ _ _ _ _ false HF.out hb5
  obtain ⟨pj, hpj⟩ : ∃ j, k = j + 1 := ⟨k - 1, by omega⟩
  obtain ⟨la2, hla2, hlb2, b0, hj2⟩ := hA.sp (k := pj) (by decide) (by omega)
  obtain rfl : la = la2 := Option.some.inj (hla.symm.trans hla2)
  have b1 := hj2 1 (by decide) (by decide)
  have b2 := hj2 2 (by decide) (by decide)
  have b3 := hj2 3 (by decide) (by decide)
  clear hj2 hla2
  have HT2 := Lib.hid (HVT.out pj hpj hv)
  have HN2 := Lib.hid (HVN.out pj hpj hv)
  obtain ⟨y, hy⟩ : ∃ y, cs[pj]'(by omega) = y := ⟨_, rfl⟩
  rw [hy] at b0 b1 b2 b3 HT2 HN2
  clear hy
  simp only [p4cell] at b0 b1 b2 b3
  have hk0 : decide ((0 : Int) < (k : Int)) = true := decide_eq_true (by omega)
  have hk0' : decide (0 < k) = true := decide_eq_true h0
  have hwk : IntKind.i64.wrap ((k : Int) - 1) = (pj : Int) := by rw [show (k : Int) - 1 = (pj : Int) by omega]; exact wrap_small (by omega) (by omega)
  have s1 : (0 : Int) ≤ (pj : Int) := by omega
  have s2 : (pj : Int) < (cs.length : Int) := by omega
  have hel : ∀ wx, Below X.heap.size X wx → wx.cell? ⟨br, 2, none⟩ = some (.slice ZA cs.length zc) ∧ wx.cell? ⟨bx, 0, none⟩ = some (.int .i64 x.a) ∧ wx.cell? ⟨bx, 1, none⟩ = some (.int .i64 x.b) ∧ wx.cell? ⟨bx, 2, none⟩ = some (.int .i64 x.c) ∧ wx.cell? ⟨bx, 3, none⟩ = some (.int .i64 x.d) ∧ wx.cell? (la.add (pj * 4)) = some (.int .i64 y.a) ∧ wx.cell? ⟨(la.add (pj * 4)).block, (la.add (pj * 4)).off + 1, none⟩ = some (.int .i64 y.b) ∧ wx.cell? ⟨(la.add (pj * 4)).block, (la.add (pj * 4)).off + 2, none⟩ = some (.int .i64 y.c) ∧ wx.cell? ⟨(la.add (pj * 4)).block, (la.add (pj * 4)).off + 3, none⟩ = some (.int .i64 y.d) := fun wx hbx => by
    obtain ⟨t0, t1, t2⟩ := (xa.below hbx).c3
    exact ⟨t2, (u0.below hbx).cell 0 rfl, (u0.below hbx).cell 1 rfl, (u0.below hbx).cell 2 rfl, (u0.below hbx).cell 3 rfl, (hbx.cell (p := (la.add (pj * 4))) hlb2).trans b0, (hbx.cell (p := ⟨(la.add (pj * 4)).block, (la.add (pj * 4)).off + 1, none⟩) hlb2).trans b1, (hbx.cell (p := ⟨(la.add (pj * 4)).block, (la.add (pj * 4)).off + 2, none⟩) hlb2).trans b2, (hbx.cell (p := ⟨(la.add (pj * 4)).block, (la.add (pj * 4)).off + 3, none⟩) hlb2).trans b3⟩
  have hc : Below X.heap.size X X.drew := (Below.refl _ _).drew
  have h5 := hel _ hc
  have h6 := hel _ (Below.refl _ _)
  clear h0 hv HVT HVN HVF HV0 hpj
  cases hls : M.lessI y.l x.l
  case false =>
    have HF := Lib.hid (HN2.out hls)
    have kP : Hid (∀ wx, Calls Tryz.prog 62 #[p4v y] wx (RetS 1 icell wx y.l)) := Lib.hid (fun wx => limit16_any y wx)
    have kX : Hid (∀ wx, Calls Tryz.prog 62 #[p4v x] wx (RetS 1 icell wx x.l)) := Lib.hid (fun wx => limit16_any x wx)
    have kL : Hid (∀ wx PA QA pc qc, Sl 1 icell wx wx.heap.size PA y.l → Sl 1 icell wx wx.heap.size QA x.l → Calls Tryz.prog 59 #[.slice PA y.l.length pc, .slice QA x.l.length qc] wx fun e w' => e = .returned (.bool false) ∧ Below wx.heap.size wx w') := Lib.hid (fun wx PA QA pc qc h1 h2 => by rw [← hls]; exact less16_any PA QA pc qc y.l x.l wx h1 h2 rfl (by show 4 ≤ 1000; decide))
    clear hls HT2 HN2
    subst hla
    go_region_held3 (fun w' => w'.cell? ⟨br, 2, none⟩ = some (.slice (some la) cs.length zc) ∧ w'.cell? ⟨bx, 0, none⟩ = some (.int .i64 x.a) ∧ w'.cell? ⟨bx, 1, none⟩ = some (.int .i64 x.b) ∧ w'.cell? ⟨bx, 2, none⟩ = some (.int .i64 x.c) ∧ w'.cell? ⟨bx, 3, none⟩ = some (.int .i64 x.d) ∧ w'.cell? (la.add (pj * 4)) = some (.int .i64 y.a) ∧ w'.cell? ⟨(la.add (pj * 4)).block, (la.add (pj * 4)).off + 1, none⟩ = some (.int .i64 y.b) ∧ w'.cell? ⟨(la.add (pj * 4)).block, (la.add (pj * 4)).off + 2, none⟩ = some (.int .i64 y.c) ∧ w'.cell? ⟨(la.add (pj * 4)).block, (la.add (pj * 4)).off + 3, none⟩ = some (.int .i64 y.d)) (first | with_reducible exact h5 | with_reducible exact h6 | with_reducible exact hel _ hc)
      (first
        | (go_at_call 57; ((with_reducible refine (k0.out _).mono ?_); rintro e wn ⟨rfl, hwn⟩; subst hwn))
        | (go_at_call 58; ((with_reducible refine (k3.out _).mono ?_); rintro e wn ⟨rfl, hwn⟩; subst hwn))
        | (go_at_call 62; ((with_reducible refine (kP.out _).mono ?_); rintro e wa ⟨PA, pc, rfl, SA, hba⟩; replace hc := hc.trans (hba.mono hc.size); clear hba))
        | (go_at_call 62; ((with_reducible refine (kX.out _).mono ?_); rintro e wb ⟨QA, qc, rfl, SB, hbb⟩; replace SA := (SA.below hbb).more hbb.size; replace hc := hc.trans (hbb.mono hc.size); clear hbb))
        | (go_at_call 59; ((with_reducible refine (kL.out _ PA QA pc qc SA SB).mono ?_); rintro e wd ⟨rfl, hbd⟩; replace hc := hc.trans (hbd.mono hc.size); clear hbd)))
    all_goals exact hQ _ _ _ _ _ _ _ _ _ _ _ _ _ _ _ _ _ _ _ _ _ _ _ _ _ _ _ _ _ _ _ _ _ _ _ _ _ _ _ true HF.out hc
  case true =>
    have HF := Lib.hid (HT2.out hls)
    have kP : Hid (∀ wx, Calls Tryz.prog 62 #[p4v y] wx (RetS 1 icell wx y.l)) := Lib.hid (fun wx => limit16_any y wx)
    have kX : Hid (∀ wx, Calls Tryz.prog 62 #[p4v x] wx (RetS 1 icell wx x.l)) := Lib.hid (fun wx => limit16_any x wx)
    have kL : Hid (∀ wx PA QA pc qc, Sl 1 icell wx wx.heap.size PA y.l → Sl 1 icell wx wx.heap.size QA x.l → Calls Tryz.prog 59 #[.slice PA y.l.length pc, .slice QA x.l.length qc] wx fun e w' => e = .returned (.bool true) ∧ Below wx.heap.size wx w') := Lib.hid (fun wx PA QA pc qc h1 h2 => by rw [← hls]; exact less16_any PA QA pc qc y.l x.l wx h1 h2 rfl (by show 4 ≤ 1000; decide))
    clear hls HT2 HN2
    subst hla
    go_region_held3 (fun w' => w'.cell? ⟨br, 2, none⟩ = some (.slice (some la) cs.length zc) ∧ w'.cell? ⟨bx, 0, none⟩ = some (.int .i64 x.a) ∧ w'.cell? ⟨bx, 1, none⟩ = some (.int .i64 x.b) ∧ w'.cell? ⟨bx, 2, none⟩ = some (.int .i64 x.c) ∧ w'.cell? ⟨bx, 3, none⟩ = some (.int .i64 x.d) ∧ w'.cell? (la.add (pj * 4)) = some (.int .i64 y.a) ∧ w'.cell? ⟨(la.add (pj * 4)).block, (la.add (pj * 4)).off + 1, none⟩ = some (.int .i64 y.b) ∧ w'.cell? ⟨(la.add (pj * 4)).block, (la.add (pj * 4)).off + 2, none⟩ = some (.int .i64 y.c) ∧ w'.cell? ⟨(la.add (pj * 4)).block, (la.add (pj * 4)).off + 3, none⟩ = some (.int .i64 y.d)) (first | with_reducible exact h5 | with_reducible exact h6 | with_reducible exact hel _ hc)
      (first
        | (go_at_call 57; ((with_reducible refine (k0.out _).mono ?_); rintro e wn ⟨rfl, hwn⟩; subst hwn))
        | (go_at_call 58; ((with_reducible refine (k3.out _).mono ?_); rintro e wn ⟨rfl, hwn⟩; subst hwn))
        | (go_at_call 62; ((with_reducible refine (kP.out _).mono ?_); rintro e wa ⟨PA, pc, rfl, SA, hba⟩; replace hc := hc.trans (hba.mono hc.size); clear hba))
        | (go_at_call 62; ((with_reducible refine (kX.out _).mono ?_); rintro e wb ⟨QA, qc, rfl, SB, hbb⟩; replace SA := (SA.below hbb).more hbb.size; replace hc := hc.trans (hbb.mono hc.size); clear hbb))
        | (go_at_call 59; ((with_reducible refine (kL.out _ PA QA pc qc SA SB).mono ?_); rintro e wd ⟨rfl, hbd⟩; replace hc := hc.trans (hbd.mono hc.size); clear hbd)))
    all_goals exact hQ _ _ _ _ _ _ _ _ _ _ _ _ _ _ _ _ _ _ _ _ _ _ _ _ _ _ _ _ _ _ _ _ _ _ _ _ _ _ _ false HF.out hc
end Go.Proofs.YtciolgmljpamlaaGreatDoor
end
