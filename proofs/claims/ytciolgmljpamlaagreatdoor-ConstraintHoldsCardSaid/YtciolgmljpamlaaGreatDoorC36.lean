/- A bundle of texts: Kn16c, Kn16b, Lw6, RcA, Rf5. -/
import Derived.Test.YtciolgmljpamlaaGreatDoorC35
import Derived.Test.YtciolgmljpamlaaGreatDoorC08
import Derived.Test.YtciolgmljpamlaaGreatDoorC01
import Derived.Test.YtciolgmljpamlaaGreatDoorC31
import Derived.Test.YtciolgmljpamlaaGreatDoorC30
section
namespace Go.Proofs.YtciolgmljpamlaaGreatDoor
open Go Go.RowKit
set_option maxRecDepth 100000
structure K16 (w0 w : World) (ba bb bc : Nat) (A1 A2 A3 : Option Addr) (c1 c2 c3 : Nat) : Prop where
  a : Box w ba (stc M.kA A1 c1) 40
  b : Box w bb (stc M.kB A2 c2) 40
  c : Box w bc (stc M.kC A3 c3) 40
  s1 : Sl 1 icell w w.heap.size A1 M.kA.pat
  s2 : Sl 1 icell w w.heap.size A2 M.kB.pat
  s3 : Sl 1 icell w w.heap.size A3 M.kC.pat
  tab : Tab w
  below : Below w0.heap.size w0 w
theorem K16.next {w0 w w' : World} {ba bb bc : Nat} {A1 A2 A3 : Option Addr} {c1 c2 c3 : Nat} (h : K16 w0 w ba bb bc A1 A2 A3 c1 c2 c3) (hb : Below w.heap.size w w') : K16 w0 w' ba bb bc A1 A2 A3 c1 c2 c3 :=
  ⟨h.a.below hb, h.b.below hb, h.c.below hb, (h.s1.below hb).more hb.size, (h.s2.below hb).more hb.size, (h.s3.below hb).more hb.size, h.tab.kept hb, after_ h.below hb⟩
theorem heldS1 {w' : World} {b0 : Nat} {a : St} {A : Option Addr} {c : Nat} (h0 : Box w' b0 (stc a A c) 40) :
    w'.cell? ⟨b0, 0, none⟩ = some (.int .i64 a.id) ∧ w'.cell? ⟨b0, 1, none⟩ = some (.int .i64 a.x) ∧ w'.cell? ⟨b0, 2, none⟩ = some (.int .i64 a.y) ∧ w'.cell? ⟨b0, 3, none⟩ = some (.int .i64 a.pw) ∧ w'.cell? ⟨b0, 4, none⟩ = some (.int .i64 a.h) ∧ w'.cell? ⟨b0, 5, none⟩ = some (.slice A a.pat.length c) ∧ w'.cell? ⟨b0, 6, none⟩ = some (.int .i64 a.band) ∧ w'.cell? ⟨b0, 7, none⟩ = some (.int .i64 a.ch) := by
  obtain ⟨c0, c1, c2, c3, c4, c5, c6, c7⟩ := h0.c8
  exact ⟨c0, c1, c2, c3, c4, c5, c6, c7⟩
theorem pats16 {w : World} {s t : St} {A B : Option Addr} {c d : Nat} (h : Sl 1 icell w w.heap.size A s.pat) (h2 : Sl 1 icell w w.heap.size B t.pat) : Pats w [⟨s, A, c⟩, ⟨t, B, d⟩] := fun e he => by
  rcases List.mem_cons.1 he with rfl | he
  · exact h
  · obtain rfl : e = ⟨t, B, d⟩ := by simpa using he
    exact h2
theorem pl16 {s t : St} {A B : Option Addr} {c d : Nat} (h : s.pat.length ≤ 1000) (h2 : t.pat.length ≤ 1000) : ∀ e ∈ ([⟨s, A, c⟩, ⟨t, B, d⟩] : List SE), e.s.pat.length ≤ 1000 := fun e he => by
  rcases List.mem_cons.1 he with rfl | he
  · exact h
  · obtain rfl : e = ⟨t, B, d⟩ := by simpa using he
    exact h2
structure RX (K w : World) (bb : Nat) (XA YA ZA : Option Addr) (n1 n2 n3 xc yc zc : Nat) (l1 l2 : List P5) (l3 : List P4) : Prop where
  box : Box w bb #[.slice XA n1 xc, .slice YA n2 yc, .slice ZA n3 zc] 30
  r : RW w XA YA ZA l1 l2 l3
  cap : n1 ≤ xc ∧ n2 ≤ yc ∧ n3 ≤ zc
theorem RX.next {K w w' : World} {bb : Nat} {XA YA ZA : Option Addr} {n1 n2 n3 xc yc zc : Nat} {l1 l2 : List P5} {l3 : List P4} (h : RX K w bb XA YA ZA n1 n2 n3 xc yc zc l1 l2 l3) (hb : Below w.heap.size w w') : RX K w' bb XA YA ZA n1 n2 n3 xc yc zc l1 l2 l3 := ⟨h.box.below hb, h.r.next hb, h.cap⟩
theorem box_new2 (w : World) (a b : Array Value) (t t' : TypeId) : Box ((w.alloc (.cells a t)).alloc (.cells b t')) (w.heap.size + 1) b t' := by
  have h1 := Box.new (w.alloc (.cells a t)) b t'
  rwa [show (w.alloc (.cells a t)).heap.size = w.heap.size + 1 by simp] at h1
theorem rw_alloc {w : World} {XA YA ZA : Option Addr} {l1 l2 : List P5} {l3 : List P4} (h : RW w XA YA ZA l1 l2 l3) (o : Obj) : RW (w.alloc o) XA YA ZA l1 l2 l3 := h.next (alloc_below w o)
theorem rw_set3 {w : World} {XA YA ZA : Option Addr} {l1 l2 : List P5} {l3 : List P4} {b : Nat} {u v t : Value} (h : RW w XA YA ZA l1 l2 l3) (h1 : ∀ ad, XA = some ad → b < ad.block) (h2 : ∀ ad, YA = some ad → b < ad.block) (h3 : ∀ ad, ZA = some ad → b < ad.block) : RW (((w.setCell ⟨b, 0, none⟩ u).setCell ⟨b, 1, none⟩ v).setCell ⟨b, 2, none⟩ t) XA YA ZA l1 l2 l3 :=
  ⟨sl_set3 h.p (fun ad e => by have := h1 ad e; omega), sl_set3 h.l (fun ad e => by have := h2 ad e; omega), sl_set3 h.c (fun ad e => by have := h3 ad e; omega)⟩
abbrev kA0 : Array Value := #[.slice none 0 0, .slice none 0 0, .slice none 0 0]
abbrev kS1 (s : St) (A : Option Addr) (c : Nat) : Array Value := #[.int .i64 s.id, .int .i64 s.x, .int .i64 s.y, .int .i64 s.pw, .int .i64 s.h, .slice A s.pat.length c, .int .i64 s.band, .int .i64 s.ch]
abbrev kS2 (s t : St) (A B : Option Addr) (c d : Nat) : Array Value := #[.int .i64 s.id, .int .i64 s.x, .int .i64 s.y, .int .i64 s.pw, .int .i64 s.h, .slice A s.pat.length c, .int .i64 s.band, .int .i64 s.ch, .int .i64 t.id, .int .i64 t.x, .int .i64 t.y, .int .i64 t.pw, .int .i64 t.h, .slice B t.pat.length d, .int .i64 t.band, .int .i64 t.ch]
set_option maxHeartbeats 32000000 in
theorem kn16_reg5 {Q : Exit → Act → World → Prop} {cd : Code} {dl : List Deferred} {s0 s4 s5 s6 s7 s8 s9 s10 s11 s12 s13 s14 s15 s16 s17 s18 s19 s20 s21 s22 s23 s24 s25 s26 s27 s28 s29 s30 s31 s32 s33 s34 s35 s36 s37 s38 s39 s40 s41 s42 s43 s44 s45 s46 s47 s48 s49 s50 s51 s52 s53 s54 s55 s56 s57 s58 s59 s60 s61 s62 s63 s64 s65 s66 s67 s68 s69 s70 s71 s72 s73 s74 s75 s76 s77 s78 s79 s80 s81 s82 s83 s84 s85 s86 s87 s88 s89 s90 s91 s92 s93 s94 s95 s96 s97 s98 s99 s100 s101 s102 s103 s104 s105 s106 s107 s108 s109 s110 s111 s112 s113 s114 s115 s116 s117 s118 s119 s120 s121 s122 s123 s124 s125 s126 s127 s128 s129 s130 s131 s132 s133 s134 : Value} (w0 V : World) (ba bb bc : Nat) (A1 A2 A3 : Option Addr) (c1 c2 c3 : Nat) (kw : K16 w0 V ba bb bc A1 A2 A3 c1 c2 c3) (hcd : (Tryz.f16.body.bind (regionOf 5)) = some cd)
    (hQ : ∀ (y36 y37 y38 y39 y40 y41 y42 y43 : Value) (wo : World) (bR : Nat) (XA YA ZA : Option Addr) (xc yc zc : Nat), RX V wo bR XA YA ZA 1 0 0 xc yc zc [M.one] ([] : List P5) ([] : List P4) → Below V.heap.size V wo → Q .normal ⟨#[s0, .pointer (some ⟨ba, 0, none⟩), .pointer (some ⟨bb, 0, none⟩), .pointer (some ⟨bc, 0, none⟩), s4, .pointer (some ⟨bR, 0, none⟩), .int .i64 0, s7, s8, s9, s10, s11, s12, s13, s14, s15, s16, s17, s18, s19, s20, s21, s22, s23, s24, s25, s26, s27, s28, s29, s30, s31, s32, s33, s34, s35, y36, y37, y38, y39, y40, y41, y42, y43, s44, s45, s46, s47, s48, s49, s50, s51, s52, s53, s54, s55, s56, s57, s58, s59, s60, s61, s62, s63, s64, s65, s66, s67, s68, s69, s70, s71, s72, s73, s74, s75, s76, s77, s78, s79, s80, s81, s82, s83, s84, s85, s86, s87, s88, s89, s90, s91, s92, s93, s94, s95, s96, s97, s98, s99, s100, s101, s102, s103, s104, s105, s106, s107, s108, s109, s110, s111, s112, s113, s114, s115, s116, s117, s118, s119, s120, s121, s122, s123, s124, s125, s126, s127, s128, s129, s130, s131, s132, s133, s134], dl⟩ wo) :
    cd.wp Tryz.prog Q ⟨#[s0, .pointer (some ⟨ba, 0, none⟩), .pointer (some ⟨bb, 0, none⟩), .pointer (some ⟨bc, 0, none⟩), s4, s5, s6, s7, s8, s9, s10, s11, s12, s13, s14, s15, s16, s17, s18, s19, s20, s21, s22, s23, s24, s25, s26, s27, s28, s29, s30, s31, s32, s33, s34, s35, s36, s37, s38, s39, s40, s41, s42, s43, s44, s45, s46, s47, s48, s49, s50, s51, s52, s53, s54, s55, s56, s57, s58, s59, s60, s61, s62, s63, s64, s65, s66, s67, s68, s69, s70, s71, s72, s73, s74, s75, s76, s77, s78, s79, s80, s81, s82, s83, s84, s85, s86, s87, s88, s89, s90, s91, s92, s93, s94, s95, s96, s97, s98, s99, s100, s101, s102, s103, s104, s105, s106, s107, s108, s109, s110, s111, s112, s113, s114, s115, s116, s117, s118, s119, s120, s121, s122, s123, s124, s125, s126, s127, s128, s129, s130, s131, s132, s133, s134], dl⟩ V := by
  rw [show (Tryz.f16.body.bind (regionOf 5)) = some (Code.region 5 _ true) from rfl] at hcd
  obtain rfl := Option.some.inj hcd
  clear hcd
  have kB : Hid (∀ wx GA gc PA pc LA lc, Below V.heap.size V wx → Sl 1 icell wx wx.heap.size GA M.pG → Sl 1 icell wx wx.heap.size PA M.pP → Sl 8 secell wx wx.heap.size LA [⟨M.kA, A1, c1⟩, ⟨M.kB, A2, c2⟩] → Calls Tryz.prog 24 #[tv 9 1 GA PA 9 gc 9 pc, .slice LA 2 lc, .int .i64 3] wx (fun e w' => ∃ XA xc YA yc ZA zc, e = .returned (.tuple #[ruv XA 1 xc YA 0 yc ZA 0 zc, .int .i64 0]) ∧ RW w' XA YA ZA [M.one] ([] : List P5) ([] : List P4) ∧ (1 ≤ xc ∧ 0 ≤ yc ∧ 0 ≤ zc) ∧ Below wx.heap.size wx w' ∧ (∀ ad, XA = some ad → wx.heap.size ≤ ad.block) ∧ (∀ ad, YA = some ad → wx.heap.size ≤ ad.block) ∧ ∀ ad, ZA = some ad → wx.heap.size ≤ ad.block)) := Lib.hid (fun wx GA gc PA pc LA lc hbx hG hPq hL => by
    have kx := kw.next hbx
    have kk := cbuild_ok 9 1 GA PA gc pc M.pG M.pP LA lc [⟨M.kA, A1, c1⟩, ⟨M.kB, A2, c2⟩] 3 wx kx.tab hG hPq hL (pats16 kx.s1 kx.s2) (by simp) (by decide) M.k16ab
    rw [show ([⟨M.kA, A1, c1⟩, ⟨M.kB, A2, c2⟩] : List SE).map (·.s) = [M.kA, M.kB] from rfl, M.k16r] at kk
    exact kk)
  have hel : ∀ wx, Below V.heap.size V wx → wx.cell? ⟨ba, 0, none⟩ = some (.int .i64 M.kA.id) ∧ wx.cell? ⟨ba, 1, none⟩ = some (.int .i64 M.kA.x) ∧ wx.cell? ⟨ba, 2, none⟩ = some (.int .i64 M.kA.y) ∧ wx.cell? ⟨ba, 3, none⟩ = some (.int .i64 M.kA.pw) ∧ wx.cell? ⟨ba, 4, none⟩ = some (.int .i64 M.kA.h) ∧ wx.cell? ⟨ba, 5, none⟩ = some (.slice A1 M.kA.pat.length c1) ∧ wx.cell? ⟨ba, 6, none⟩ = some (.int .i64 M.kA.band) ∧ wx.cell? ⟨ba, 7, none⟩ = some (.int .i64 M.kA.ch) ∧ wx.cell? ⟨bb, 0, none⟩ = some (.int .i64 M.kB.id) ∧ wx.cell? ⟨bb, 1, none⟩ = some (.int .i64 M.kB.x) ∧ wx.cell? ⟨bb, 2, none⟩ = some (.int .i64 M.kB.y) ∧ wx.cell? ⟨bb, 3, none⟩ = some (.int .i64 M.kB.pw) ∧ wx.cell? ⟨bb, 4, none⟩ = some (.int .i64 M.kB.h) ∧ wx.cell? ⟨bb, 5, none⟩ = some (.slice A2 M.kB.pat.length c2) ∧ wx.cell? ⟨bb, 6, none⟩ = some (.int .i64 M.kB.band) ∧ wx.cell? ⟨bb, 7, none⟩ = some (.int .i64 M.kB.ch) := fun wx hbx => heldS (kw.a.below hbx) (kw.b.below hbx)
  have hc : Below V.heap.size V V.drew := (Below.refl _ _).drew
  have h0 := hel _ hc
  have h1 := hel _ (Below.refl _ _)
  clear kw
  go_region_held3 (fun w' => w'.cell? ⟨ba, 0, none⟩ = some (.int .i64 M.kA.id) ∧ w'.cell? ⟨ba, 1, none⟩ = some (.int .i64 M.kA.x) ∧ w'.cell? ⟨ba, 2, none⟩ = some (.int .i64 M.kA.y) ∧ w'.cell? ⟨ba, 3, none⟩ = some (.int .i64 M.kA.pw) ∧ w'.cell? ⟨ba, 4, none⟩ = some (.int .i64 M.kA.h) ∧ w'.cell? ⟨ba, 5, none⟩ = some (.slice A1 M.kA.pat.length c1) ∧ w'.cell? ⟨ba, 6, none⟩ = some (.int .i64 M.kA.band) ∧ w'.cell? ⟨ba, 7, none⟩ = some (.int .i64 M.kA.ch) ∧ w'.cell? ⟨bb, 0, none⟩ = some (.int .i64 M.kB.id) ∧ w'.cell? ⟨bb, 1, none⟩ = some (.int .i64 M.kB.x) ∧ w'.cell? ⟨bb, 2, none⟩ = some (.int .i64 M.kB.y) ∧ w'.cell? ⟨bb, 3, none⟩ = some (.int .i64 M.kB.pw) ∧ w'.cell? ⟨bb, 4, none⟩ = some (.int .i64 M.kB.h) ∧ w'.cell? ⟨bb, 5, none⟩ = some (.slice A2 M.kB.pat.length c2) ∧ w'.cell? ⟨bb, 6, none⟩ = some (.int .i64 M.kB.band) ∧ w'.cell? ⟨bb, 7, none⟩ = some (.int .i64 M.kB.ch)) (first | with_reducible exact h0 | with_reducible exact h1 | with_reducible exact hel _ hc | with_reducible exact hel _ ((alloc_below V (.cells (kS2 M.kA M.kB A1 A2 c1 c2) 40)).drew) | with_reducible exact hel _ ((alloc_below V (.cells kA0 30)).drew) | with_reducible exact hel _ (((alloc_below V (.cells (kS2 M.kA M.kB A1 A2 c1 c2) 40)).alloc (alloc_below V (.cells (kS2 M.kA M.kB A1 A2 c1 c2) 40)).size (.cells kA0 30)).drew) | with_reducible exact hel _ (((alloc_below V (.cells kA0 30)).alloc (alloc_below V (.cells kA0 30)).size (.cells (kS2 M.kA M.kB A1 A2 c1 c2) 40)).drew) | with_reducible exact hel _ (hc.trans ((alloc_below wa (.cells (kS2 M.kA M.kB A1 A2 c1 c2) 40)).mono hc.size)) | with_reducible exact hel _ (hc.trans ((alloc_below wa (.cells kA0 30)).mono hc.size)) | with_reducible exact hel _ (hc.trans (((alloc_below wa (.cells (kS2 M.kA M.kB A1 A2 c1 c2) 40)).alloc (alloc_below wa (.cells (kS2 M.kA M.kB A1 A2 c1 c2) 40)).size (.cells kA0 30)).mono hc.size)) | with_reducible exact hel _ (hc.trans (((alloc_below wa (.cells kA0 30)).alloc (alloc_below wa (.cells kA0 30)).size (.cells (kS2 M.kA M.kB A1 A2 c1 c2) 40)).mono hc.size)) | with_reducible exact hel _ (hc.trans ((alloc_below wb (.cells (kS2 M.kA M.kB A1 A2 c1 c2) 40)).mono hc.size)) | with_reducible exact hel _ (hc.trans ((alloc_below wb (.cells kA0 30)).mono hc.size)) | with_reducible exact hel _ (hc.trans (((alloc_below wb (.cells (kS2 M.kA M.kB A1 A2 c1 c2) 40)).alloc (alloc_below wb (.cells (kS2 M.kA M.kB A1 A2 c1 c2) 40)).size (.cells kA0 30)).mono hc.size)) | with_reducible exact hel _ (hc.trans (((alloc_below wb (.cells kA0 30)).alloc (alloc_below wb (.cells kA0 30)).size (.cells (kS2 M.kA M.kB A1 A2 c1 c2) 40)).mono hc.size)) | with_reducible exact hel _ (hc.alloc hc.size _) | with_reducible exact hel _ (below_set3 hc hbA))
    (first
      | (go_at_call 56; (first
        | ((with_reducible refine (row16_ok V.drew).mono ?_); rintro e wa ⟨GA, gc, PA, pc, rfl, hG, hPq, hba⟩; replace hc : Below V.heap.size V wa := ((Below.refl V.heap.size V).drew).trans (hba.mono ((Below.refl V.heap.size V).drew).size); have hcs := hc.size; clear hba)
        | ((with_reducible refine (row16_ok (World.alloc V (.cells (kS2 M.kA M.kB A1 A2 c1 c2) 40)).drew).mono ?_); rintro e wa ⟨GA, gc, PA, pc, rfl, hG, hPq, hba⟩; have bS : Box wa (V.heap.size) (kS2 M.kA M.kB A1 A2 c1 c2) 40 := Box.below (w := (World.alloc V (.cells (kS2 M.kA M.kB A1 A2 c1 c2) 40)).drew) (Box.new V _ _) hba; replace hc : Below V.heap.size V wa := ((alloc_below V (.cells (kS2 M.kA M.kB A1 A2 c1 c2) 40)).drew).trans (hba.mono ((alloc_below V (.cells (kS2 M.kA M.kB A1 A2 c1 c2) 40)).drew).size); have hcs := hc.size; clear hba)
        | ((with_reducible refine (row16_ok (World.alloc V (.cells kA0 30)).drew).mono ?_); rintro e wa ⟨GA, gc, PA, pc, rfl, hG, hPq, hba⟩; have bA : Box wa (V.heap.size) kA0 30 := Box.below (w := (World.alloc V (.cells kA0 30)).drew) (Box.new V _ _) hba; (obtain ⟨y0, y1, y2⟩ := bA.c3; have g0 := bA.frozen 0; have g1 := bA.frozen 1; have g2 := bA.frozen 2); have hbA : V.heap.size ≤ V.heap.size := Nat.le_refl _; replace hc : Below V.heap.size V wa := ((alloc_below V (.cells kA0 30)).drew).trans (hba.mono ((alloc_below V (.cells kA0 30)).drew).size); have hcs := hc.size; clear hba)
        | ((with_reducible refine (row16_ok (World.alloc (World.alloc V (.cells (kS2 M.kA M.kB A1 A2 c1 c2) 40)) (.cells kA0 30)).drew).mono ?_); rintro e wa ⟨GA, gc, PA, pc, rfl, hG, hPq, hba⟩; have bS : Box wa (V.heap.size) (kS2 M.kA M.kB A1 A2 c1 c2) 40 := Box.below (w := (World.alloc (World.alloc V (.cells (kS2 M.kA M.kB A1 A2 c1 c2) 40)) (.cells kA0 30)).drew) ((Box.new V _ _).alloc _) hba; have bA : Box wa (V.heap.size + 1) kA0 30 := Box.below (w := (World.alloc (World.alloc V (.cells (kS2 M.kA M.kB A1 A2 c1 c2) 40)) (.cells kA0 30)).drew) (box_new2 V _ _ _ _) hba; (obtain ⟨y0, y1, y2⟩ := bA.c3; have g0 := bA.frozen 0; have g1 := bA.frozen 1; have g2 := bA.frozen 2); have hbA : V.heap.size ≤ V.heap.size + 1 := Nat.le_succ _; replace hc : Below V.heap.size V wa := (((alloc_below V (.cells (kS2 M.kA M.kB A1 A2 c1 c2) 40)).alloc (alloc_below V (.cells (kS2 M.kA M.kB A1 A2 c1 c2) 40)).size (.cells kA0 30)).drew).trans (hba.mono (((alloc_below V (.cells (kS2 M.kA M.kB A1 A2 c1 c2) 40)).alloc (alloc_below V (.cells (kS2 M.kA M.kB A1 A2 c1 c2) 40)).size (.cells kA0 30)).drew).size); have hcs := hc.size; clear hba)
        | ((with_reducible refine (row16_ok (World.alloc (World.alloc V (.cells kA0 30)) (.cells (kS2 M.kA M.kB A1 A2 c1 c2) 40)).drew).mono ?_); rintro e wa ⟨GA, gc, PA, pc, rfl, hG, hPq, hba⟩; have bA : Box wa (V.heap.size) kA0 30 := Box.below (w := (World.alloc (World.alloc V (.cells kA0 30)) (.cells (kS2 M.kA M.kB A1 A2 c1 c2) 40)).drew) ((Box.new V _ _).alloc _) hba; (obtain ⟨y0, y1, y2⟩ := bA.c3; have g0 := bA.frozen 0; have g1 := bA.frozen 1; have g2 := bA.frozen 2); have hbA : V.heap.size ≤ V.heap.size := Nat.le_refl _; have bS : Box wa (V.heap.size + 1) (kS2 M.kA M.kB A1 A2 c1 c2) 40 := Box.below (w := (World.alloc (World.alloc V (.cells kA0 30)) (.cells (kS2 M.kA M.kB A1 A2 c1 c2) 40)).drew) (box_new2 V _ _ _ _) hba; replace hc : Below V.heap.size V wa := (((alloc_below V (.cells kA0 30)).alloc (alloc_below V (.cells kA0 30)).size (.cells (kS2 M.kA M.kB A1 A2 c1 c2) 40)).drew).trans (hba.mono (((alloc_below V (.cells kA0 30)).alloc (alloc_below V (.cells kA0 30)).size (.cells (kS2 M.kA M.kB A1 A2 c1 c2) 40)).drew).size); have hcs := hc.size; clear hba)))
      | (go_at_call 24; (first
        | ((with_reducible refine (kB.out wa GA gc PA pc _ 2 (hc.trans ((Below.refl wa.heap.size wa).mono hc.size)) hG hPq (Sl.of_box (size := 8) (cell := secell) (xs := [⟨M.kA, A1, c1⟩, ⟨M.kB, A2, c2⟩]) bS rfl)).mono ?_); rintro e wb ⟨XA, xc, YA, yc, ZA, zc, rfl, hR, hcp, hbb, fX, fY, fZ⟩; (try (have hFl := bA.lt; clear y0 y1 y2 g0 g1 g2; replace bA := bA.below hbb; (obtain ⟨y0, y1, y2⟩ := bA.c3; have g0 := bA.frozen 0; have g1 := bA.frozen 1; have g2 := bA.frozen 2))); replace hc := (hc.trans ((Below.refl wa.heap.size wa).mono hc.size)).trans (hbb.mono (hc.trans ((Below.refl wa.heap.size wa).mono hc.size)).size); clear hbb)
        | ((with_reducible refine (kB.out (World.alloc wa (.cells kA0 30)) GA gc PA pc _ 2 (hc.trans ((alloc_below wa (.cells kA0 30)).mono hc.size)) ((hG.below (alloc_below wa (.cells kA0 30))).more (alloc_below wa (.cells kA0 30)).size) ((hPq.below (alloc_below wa (.cells kA0 30))).more (alloc_below wa (.cells kA0 30)).size) (Sl.of_box (size := 8) (cell := secell) (xs := [⟨M.kA, A1, c1⟩, ⟨M.kB, A2, c2⟩]) (bS.alloc _) rfl)).mono ?_); rintro e wb ⟨XA, xc, YA, yc, ZA, zc, rfl, hR, hcp, hbb, fX, fY, fZ⟩; have bA : Box wb (wa.heap.size) kA0 30 := Box.below (w := (World.alloc wa (.cells kA0 30))) (Box.new wa _ _) hbb; have hFl : wa.heap.size < (World.alloc wa (.cells kA0 30)).heap.size := Box.lt (w := (World.alloc wa (.cells kA0 30))) (Box.new wa _ _); (obtain ⟨y0, y1, y2⟩ := bA.c3; have g0 := bA.frozen 0; have g1 := bA.frozen 1; have g2 := bA.frozen 2); have hbA : V.heap.size ≤ wa.heap.size := hcs; replace hc := (hc.trans ((alloc_below wa (.cells kA0 30)).mono hc.size)).trans (hbb.mono (hc.trans ((alloc_below wa (.cells kA0 30)).mono hc.size)).size); clear hbb)
        | ((with_reducible refine (kB.out (World.alloc wa (.cells (kS2 M.kA M.kB A1 A2 c1 c2) 40)) GA gc PA pc _ 2 (hc.trans ((alloc_below wa (.cells (kS2 M.kA M.kB A1 A2 c1 c2) 40)).mono hc.size)) ((hG.below (alloc_below wa (.cells (kS2 M.kA M.kB A1 A2 c1 c2) 40))).more (alloc_below wa (.cells (kS2 M.kA M.kB A1 A2 c1 c2) 40)).size) ((hPq.below (alloc_below wa (.cells (kS2 M.kA M.kB A1 A2 c1 c2) 40))).more (alloc_below wa (.cells (kS2 M.kA M.kB A1 A2 c1 c2) 40)).size) (Sl.of_box (size := 8) (cell := secell) (xs := [⟨M.kA, A1, c1⟩, ⟨M.kB, A2, c2⟩]) (Box.new wa _ _) rfl)).mono ?_); rintro e wb ⟨XA, xc, YA, yc, ZA, zc, rfl, hR, hcp, hbb, fX, fY, fZ⟩; (try (have hFl := Box.lt (w := (World.alloc wa (.cells (kS2 M.kA M.kB A1 A2 c1 c2) 40))) (bA.alloc _); clear y0 y1 y2 g0 g1 g2; replace bA := (bA.alloc _).below hbb; (obtain ⟨y0, y1, y2⟩ := bA.c3; have g0 := bA.frozen 0; have g1 := bA.frozen 1; have g2 := bA.frozen 2))); replace hc := (hc.trans ((alloc_below wa (.cells (kS2 M.kA M.kB A1 A2 c1 c2) 40)).mono hc.size)).trans (hbb.mono (hc.trans ((alloc_below wa (.cells (kS2 M.kA M.kB A1 A2 c1 c2) 40)).mono hc.size)).size); clear hbb)
        | ((with_reducible refine (kB.out (World.alloc (World.alloc wa (.cells (kS2 M.kA M.kB A1 A2 c1 c2) 40)) (.cells kA0 30)) GA gc PA pc _ 2 (hc.trans (((alloc_below wa (.cells (kS2 M.kA M.kB A1 A2 c1 c2) 40)).alloc (alloc_below wa (.cells (kS2 M.kA M.kB A1 A2 c1 c2) 40)).size (.cells kA0 30)).mono hc.size)) ((hG.below ((alloc_below wa (.cells (kS2 M.kA M.kB A1 A2 c1 c2) 40)).alloc (alloc_below wa (.cells (kS2 M.kA M.kB A1 A2 c1 c2) 40)).size (.cells kA0 30))).more ((alloc_below wa (.cells (kS2 M.kA M.kB A1 A2 c1 c2) 40)).alloc (alloc_below wa (.cells (kS2 M.kA M.kB A1 A2 c1 c2) 40)).size (.cells kA0 30)).size) ((hPq.below ((alloc_below wa (.cells (kS2 M.kA M.kB A1 A2 c1 c2) 40)).alloc (alloc_below wa (.cells (kS2 M.kA M.kB A1 A2 c1 c2) 40)).size (.cells kA0 30))).more ((alloc_below wa (.cells (kS2 M.kA M.kB A1 A2 c1 c2) 40)).alloc (alloc_below wa (.cells (kS2 M.kA M.kB A1 A2 c1 c2) 40)).size (.cells kA0 30)).size) (Sl.of_box (size := 8) (cell := secell) (xs := [⟨M.kA, A1, c1⟩, ⟨M.kB, A2, c2⟩]) ((Box.new wa _ _).alloc _) rfl)).mono ?_); rintro e wb ⟨XA, xc, YA, yc, ZA, zc, rfl, hR, hcp, hbb, fX, fY, fZ⟩; have bS : Box wb (wa.heap.size) (kS2 M.kA M.kB A1 A2 c1 c2) 40 := Box.below (w := (World.alloc (World.alloc wa (.cells (kS2 M.kA M.kB A1 A2 c1 c2) 40)) (.cells kA0 30))) ((Box.new wa _ _).alloc _) hbb; have bA : Box wb (wa.heap.size + 1) kA0 30 := Box.below (w := (World.alloc (World.alloc wa (.cells (kS2 M.kA M.kB A1 A2 c1 c2) 40)) (.cells kA0 30))) (box_new2 wa _ _ _ _) hbb; have hFl : wa.heap.size + 1 < (World.alloc (World.alloc wa (.cells (kS2 M.kA M.kB A1 A2 c1 c2) 40)) (.cells kA0 30)).heap.size := Box.lt (w := (World.alloc (World.alloc wa (.cells (kS2 M.kA M.kB A1 A2 c1 c2) 40)) (.cells kA0 30))) (box_new2 wa _ _ _ _); (obtain ⟨y0, y1, y2⟩ := bA.c3; have g0 := bA.frozen 0; have g1 := bA.frozen 1; have g2 := bA.frozen 2); have hbA : V.heap.size ≤ wa.heap.size + 1 := Nat.le_succ_of_le hcs; replace hc := (hc.trans (((alloc_below wa (.cells (kS2 M.kA M.kB A1 A2 c1 c2) 40)).alloc (alloc_below wa (.cells (kS2 M.kA M.kB A1 A2 c1 c2) 40)).size (.cells kA0 30)).mono hc.size)).trans (hbb.mono (hc.trans (((alloc_below wa (.cells (kS2 M.kA M.kB A1 A2 c1 c2) 40)).alloc (alloc_below wa (.cells (kS2 M.kA M.kB A1 A2 c1 c2) 40)).size (.cells kA0 30)).mono hc.size)).size); clear hbb)
        | ((with_reducible refine (kB.out (World.alloc (World.alloc wa (.cells kA0 30)) (.cells (kS2 M.kA M.kB A1 A2 c1 c2) 40)) GA gc PA pc _ 2 (hc.trans (((alloc_below wa (.cells kA0 30)).alloc (alloc_below wa (.cells kA0 30)).size (.cells (kS2 M.kA M.kB A1 A2 c1 c2) 40)).mono hc.size)) ((hG.below ((alloc_below wa (.cells kA0 30)).alloc (alloc_below wa (.cells kA0 30)).size (.cells (kS2 M.kA M.kB A1 A2 c1 c2) 40))).more ((alloc_below wa (.cells kA0 30)).alloc (alloc_below wa (.cells kA0 30)).size (.cells (kS2 M.kA M.kB A1 A2 c1 c2) 40)).size) ((hPq.below ((alloc_below wa (.cells kA0 30)).alloc (alloc_below wa (.cells kA0 30)).size (.cells (kS2 M.kA M.kB A1 A2 c1 c2) 40))).more ((alloc_below wa (.cells kA0 30)).alloc (alloc_below wa (.cells kA0 30)).size (.cells (kS2 M.kA M.kB A1 A2 c1 c2) 40)).size) (Sl.of_box (size := 8) (cell := secell) (xs := [⟨M.kA, A1, c1⟩, ⟨M.kB, A2, c2⟩]) (box_new2 wa _ _ _ _) rfl)).mono ?_); rintro e wb ⟨XA, xc, YA, yc, ZA, zc, rfl, hR, hcp, hbb, fX, fY, fZ⟩; have bA : Box wb (wa.heap.size) kA0 30 := Box.below (w := (World.alloc (World.alloc wa (.cells kA0 30)) (.cells (kS2 M.kA M.kB A1 A2 c1 c2) 40))) ((Box.new wa _ _).alloc _) hbb; have hFl : wa.heap.size < (World.alloc (World.alloc wa (.cells kA0 30)) (.cells (kS2 M.kA M.kB A1 A2 c1 c2) 40)).heap.size := Box.lt (w := (World.alloc (World.alloc wa (.cells kA0 30)) (.cells (kS2 M.kA M.kB A1 A2 c1 c2) 40))) ((Box.new wa _ _).alloc _); (obtain ⟨y0, y1, y2⟩ := bA.c3; have g0 := bA.frozen 0; have g1 := bA.frozen 1; have g2 := bA.frozen 2); have hbA : V.heap.size ≤ wa.heap.size := hcs; have bS : Box wb (wa.heap.size + 1) (kS2 M.kA M.kB A1 A2 c1 c2) 40 := Box.below (w := (World.alloc (World.alloc wa (.cells kA0 30)) (.cells (kS2 M.kA M.kB A1 A2 c1 c2) 40))) (box_new2 wa _ _ _ _) hbb; replace hc := (hc.trans (((alloc_below wa (.cells kA0 30)).alloc (alloc_below wa (.cells kA0 30)).size (.cells (kS2 M.kA M.kB A1 A2 c1 c2) 40)).mono hc.size)).trans (hbb.mono (hc.trans (((alloc_below wa (.cells kA0 30)).alloc (alloc_below wa (.cells kA0 30)).size (.cells (kS2 M.kA M.kB A1 A2 c1 c2) 40)).mono hc.size)).size); clear hbb))))
  all_goals
    first
    | exact hQ _ _ _ _ _ _ _ _ _ _ XA YA ZA xc yc zc ⟨bA.set3, rw_set3 hR (fun ad h => Nat.lt_of_lt_of_le hFl (fX ad h)) (fun ad h => Nat.lt_of_lt_of_le hFl (fY ad h)) (fun ad h => Nat.lt_of_lt_of_le hFl (fZ ad h)), hcp⟩ (below_set3 hc hbA)
    | exact hQ _ _ _ _ _ _ _ _ _ _ XA YA ZA xc yc zc ⟨Box.new _ _ _, rw_alloc hR _, hcp⟩ (hc.alloc hc.size _)
set_option maxHeartbeats 32000000 in
theorem kn16_reg6 {Q : Exit → Act → World → Prop} {cd : Code} {dl : List Deferred} {s0 s4 s5 s6 s7 s8 s9 s10 s11 s12 s13 s14 s15 s16 s17 s18 s19 s20 s21 s22 s23 s24 s25 s26 s27 s28 s29 s30 s31 s32 s33 s34 s35 s36 s37 s38 s39 s40 s41 s42 s43 s44 s45 s46 s47 s48 s49 s50 s51 s52 s53 s54 s55 s56 s57 s58 s59 s60 s61 s62 s63 s64 s65 s66 s67 s68 s69 s70 s71 s72 s73 s74 s75 s76 s77 s78 s79 s80 s81 s82 s83 s84 s85 s86 s87 s88 s89 s90 s91 s92 s93 s94 s95 s96 s97 s98 s99 s100 s101 s102 s103 s104 s105 s106 s107 s108 s109 s110 s111 s112 s113 s114 s115 s116 s117 s118 s119 s120 s121 s122 s123 s124 s125 s126 s127 s128 s129 s130 s131 s132 s133 s134 : Value} (w0 V : World) (ba bb bc : Nat) (A1 A2 A3 : Option Addr) (c1 c2 c3 : Nat) (kw : K16 w0 V ba bb bc A1 A2 A3 c1 c2 c3) (hcd : (Tryz.f16.body.bind (regionOf 6)) = some cd)
    (hQ : ∀ (y44 y45 y46 y47 y48 y49 y50 y51 : Value) (wo : World) (bR : Nat) (XA YA ZA : Option Addr) (xc yc zc : Nat), RX V wo bR XA YA ZA 0 1 1 xc yc zc ([] : List P5) [M.lone] [M.cone] → Below V.heap.size V wo → Q .normal ⟨#[s0, .pointer (some ⟨ba, 0, none⟩), .pointer (some ⟨bb, 0, none⟩), .pointer (some ⟨bc, 0, none⟩), s4, s5, s6, .pointer (some ⟨bR, 0, none⟩), .int .i64 0, s9, s10, s11, s12, s13, s14, s15, s16, s17, s18, s19, s20, s21, s22, s23, s24, s25, s26, s27, s28, s29, s30, s31, s32, s33, s34, s35, s36, s37, s38, s39, s40, s41, s42, s43, y44, y45, y46, y47, y48, y49, y50, y51, s52, s53, s54, s55, s56, s57, s58, s59, s60, s61, s62, s63, s64, s65, s66, s67, s68, s69, s70, s71, s72, s73, s74, s75, s76, s77, s78, s79, s80, s81, s82, s83, s84, s85, s86, s87, s88, s89, s90, s91, s92, s93, s94, s95, s96, s97, s98, s99, s100, s101, s102, s103, s104, s105, s106, s107, s108, s109, s110, s111, s112, s113, s114, s115, s116, s117, s118, s119, s120, s121, s122, s123, s124, s125, s126, s127, s128, s129, s130, s131, s132, s133, s134], dl⟩ wo) :
    cd.wp Tryz.prog Q ⟨#[s0, .pointer (some ⟨ba, 0, none⟩), .pointer (some ⟨bb, 0, none⟩), .pointer (some ⟨bc, 0, none⟩), s4, s5, s6, s7, s8, s9, s10, s11, s12, s13, s14, s15, s16, s17, s18, s19, s20, s21, s22, s23, s24, s25, s26, s27, s28, s29, s30, s31, s32, s33, s34, s35, s36, s37, s38, s39, s40, s41, s42, s43, s44, s45, s46, s47, s48, s49, s50, s51, s52, s53, s54, s55, s56, s57, s58, s59, s60, s61, s62, s63, s64, s65, s66, s67, s68, s69, s70, s71, s72, s73, s74, s75, s76, s77, s78, s79, s80, s81, s82, s83, s84, s85, s86, s87, s88, s89, s90, s91, s92, s93, s94, s95, s96, s97, s98, s99, s100, s101, s102, s103, s104, s105, s106, s107, s108, s109, s110, s111, s112, s113, s114, s115, s116, s117, s118, s119, s120, s121, s122, s123, s124, s125, s126, s127, s128, s129, s130, s131, s132, s133, s134], dl⟩ V := by
  rw [show (Tryz.f16.body.bind (regionOf 6)) = some (Code.region 6 _ true) from rfl] at hcd
  obtain rfl := Option.some.inj hcd
  clear hcd
  have kB : Hid (∀ wx GA gc PA pc LA lc, Below V.heap.size V wx → Sl 1 icell wx wx.heap.size GA M.pG → Sl 1 icell wx wx.heap.size PA M.pP → Sl 8 secell wx wx.heap.size LA [⟨M.kA, A1, c1⟩, ⟨M.kC, A3, c3⟩] → Calls Tryz.prog 24 #[tv 9 1 GA PA 9 gc 9 pc, .slice LA 2 lc, .int .i64 3] wx (fun e w' => ∃ XA xc YA yc ZA zc, e = .returned (.tuple #[ruv XA 0 xc YA 1 yc ZA 1 zc, .int .i64 0]) ∧ RW w' XA YA ZA ([] : List P5) [M.lone] [M.cone] ∧ (0 ≤ xc ∧ 1 ≤ yc ∧ 1 ≤ zc) ∧ Below wx.heap.size wx w' ∧ (∀ ad, XA = some ad → wx.heap.size ≤ ad.block) ∧ (∀ ad, YA = some ad → wx.heap.size ≤ ad.block) ∧ ∀ ad, ZA = some ad → wx.heap.size ≤ ad.block)) := Lib.hid (fun wx GA gc PA pc LA lc hbx hG hPq hL => by
    have kx := kw.next hbx
    have kk := cbuild_ok 9 1 GA PA gc pc M.pG M.pP LA lc [⟨M.kA, A1, c1⟩, ⟨M.kC, A3, c3⟩] 3 wx kx.tab hG hPq hL (pats16 kx.s1 kx.s3) (by simp) (by decide) M.k16ac
    rw [show ([⟨M.kA, A1, c1⟩, ⟨M.kC, A3, c3⟩] : List SE).map (·.s) = [M.kA, M.kC] from rfl, M.k16q] at kk
    exact kk)
  have hel : ∀ wx, Below V.heap.size V wx → wx.cell? ⟨ba, 0, none⟩ = some (.int .i64 M.kA.id) ∧ wx.cell? ⟨ba, 1, none⟩ = some (.int .i64 M.kA.x) ∧ wx.cell? ⟨ba, 2, none⟩ = some (.int .i64 M.kA.y) ∧ wx.cell? ⟨ba, 3, none⟩ = some (.int .i64 M.kA.pw) ∧ wx.cell? ⟨ba, 4, none⟩ = some (.int .i64 M.kA.h) ∧ wx.cell? ⟨ba, 5, none⟩ = some (.slice A1 M.kA.pat.length c1) ∧ wx.cell? ⟨ba, 6, none⟩ = some (.int .i64 M.kA.band) ∧ wx.cell? ⟨ba, 7, none⟩ = some (.int .i64 M.kA.ch) ∧ wx.cell? ⟨bc, 0, none⟩ = some (.int .i64 M.kC.id) ∧ wx.cell? ⟨bc, 1, none⟩ = some (.int .i64 M.kC.x) ∧ wx.cell? ⟨bc, 2, none⟩ = some (.int .i64 M.kC.y) ∧ wx.cell? ⟨bc, 3, none⟩ = some (.int .i64 M.kC.pw) ∧ wx.cell? ⟨bc, 4, none⟩ = some (.int .i64 M.kC.h) ∧ wx.cell? ⟨bc, 5, none⟩ = some (.slice A3 M.kC.pat.length c3) ∧ wx.cell? ⟨bc, 6, none⟩ = some (.int .i64 M.kC.band) ∧ wx.cell? ⟨bc, 7, none⟩ = some (.int .i64 M.kC.ch) := fun wx hbx => heldS (kw.a.below hbx) (kw.c.below hbx)
  have hc : Below V.heap.size V V.drew := (Below.refl _ _).drew
  have h0 := hel _ hc
  have h1 := hel _ (Below.refl _ _)
  clear kw
  go_region_held3 (fun w' => w'.cell? ⟨ba, 0, none⟩ = some (.int .i64 M.kA.id) ∧ w'.cell? ⟨ba, 1, none⟩ = some (.int .i64 M.kA.x) ∧ w'.cell? ⟨ba, 2, none⟩ = some (.int .i64 M.kA.y) ∧ w'.cell? ⟨ba, 3, none⟩ = some (.int .i64 M.kA.pw) ∧ w'.cell? ⟨ba, 4, none⟩ = some (.int .i64 M.kA.h) ∧ w'.cell? ⟨ba, 5, none⟩ = some (.slice A1 M.kA.pat.length c1) ∧ w'.cell? ⟨ba, 6, none⟩ = some (.int .i64 M.kA.band) ∧ w'.cell? ⟨ba, 7, none⟩ = some (.int .i64 M.kA.ch) ∧ w'.cell? ⟨bc, 0, none⟩ = some (.int .i64 M.kC.id) ∧ w'.cell? ⟨bc, 1, none⟩ = some (.int .i64 M.kC.x) ∧ w'.cell? ⟨bc, 2, none⟩ = some (.int .i64 M.kC.y) ∧ w'.cell? ⟨bc, 3, none⟩ = some (.int .i64 M.kC.pw) ∧ w'.cell? ⟨bc, 4, none⟩ = some (.int .i64 M.kC.h) ∧ w'.cell? ⟨bc, 5, none⟩ = some (.slice A3 M.kC.pat.length c3) ∧ w'.cell? ⟨bc, 6, none⟩ = some (.int .i64 M.kC.band) ∧ w'.cell? ⟨bc, 7, none⟩ = some (.int .i64 M.kC.ch)) (first | with_reducible exact h0 | with_reducible exact h1 | with_reducible exact hel _ hc | with_reducible exact hel _ ((alloc_below V (.cells (kS2 M.kA M.kC A1 A3 c1 c3) 40)).drew) | with_reducible exact hel _ ((alloc_below V (.cells kA0 30)).drew) | with_reducible exact hel _ (((alloc_below V (.cells (kS2 M.kA M.kC A1 A3 c1 c3) 40)).alloc (alloc_below V (.cells (kS2 M.kA M.kC A1 A3 c1 c3) 40)).size (.cells kA0 30)).drew) | with_reducible exact hel _ (((alloc_below V (.cells kA0 30)).alloc (alloc_below V (.cells kA0 30)).size (.cells (kS2 M.kA M.kC A1 A3 c1 c3) 40)).drew) | with_reducible exact hel _ (hc.trans ((alloc_below wa (.cells (kS2 M.kA M.kC A1 A3 c1 c3) 40)).mono hc.size)) | with_reducible exact hel _ (hc.trans ((alloc_below wa (.cells kA0 30)).mono hc.size)) | with_reducible exact hel _ (hc.trans (((alloc_below wa (.cells (kS2 M.kA M.kC A1 A3 c1 c3) 40)).alloc (alloc_below wa (.cells (kS2 M.kA M.kC A1 A3 c1 c3) 40)).size (.cells kA0 30)).mono hc.size)) | with_reducible exact hel _ (hc.trans (((alloc_below wa (.cells kA0 30)).alloc (alloc_below wa (.cells kA0 30)).size (.cells (kS2 M.kA M.kC A1 A3 c1 c3) 40)).mono hc.size)) | with_reducible exact hel _ (hc.trans ((alloc_below wb (.cells (kS2 M.kA M.kC A1 A3 c1 c3) 40)).mono hc.size)) | with_reducible exact hel _ (hc.trans ((alloc_below wb (.cells kA0 30)).mono hc.size)) | with_reducible exact hel _ (hc.trans (((alloc_below wb (.cells (kS2 M.kA M.kC A1 A3 c1 c3) 40)).alloc (alloc_below wb (.cells (kS2 M.kA M.kC A1 A3 c1 c3) 40)).size (.cells kA0 30)).mono hc.size)) | with_reducible exact hel _ (hc.trans (((alloc_below wb (.cells kA0 30)).alloc (alloc_below wb (.cells kA0 30)).size (.cells (kS2 M.kA M.kC A1 A3 c1 c3) 40)).mono hc.size)) | with_reducible exact hel _ (hc.alloc hc.size _) | with_reducible exact hel _ (below_set3 hc hbA))
    (first
      | (go_at_call 56; (first
        | ((with_reducible refine (row16_ok V.drew).mono ?_); rintro e wa ⟨GA, gc, PA, pc, rfl, hG, hPq, hba⟩; replace hc : Below V.heap.size V wa := ((Below.refl V.heap.size V).drew).trans (hba.mono ((Below.refl V.heap.size V).drew).size); have hcs := hc.size; clear hba)
        | ((with_reducible refine (row16_ok (World.alloc V (.cells (kS2 M.kA M.kC A1 A3 c1 c3) 40)).drew).mono ?_); rintro e wa ⟨GA, gc, PA, pc, rfl, hG, hPq, hba⟩; have bS : Box wa (V.heap.size) (kS2 M.kA M.kC A1 A3 c1 c3) 40 := Box.below (w := (World.alloc V (.cells (kS2 M.kA M.kC A1 A3 c1 c3) 40)).drew) (Box.new V _ _) hba; replace hc : Below V.heap.size V wa := ((alloc_below V (.cells (kS2 M.kA M.kC A1 A3 c1 c3) 40)).drew).trans (hba.mono ((alloc_below V (.cells (kS2 M.kA M.kC A1 A3 c1 c3) 40)).drew).size); have hcs := hc.size; clear hba)
        | ((with_reducible refine (row16_ok (World.alloc V (.cells kA0 30)).drew).mono ?_); rintro e wa ⟨GA, gc, PA, pc, rfl, hG, hPq, hba⟩; have bA : Box wa (V.heap.size) kA0 30 := Box.below (w := (World.alloc V (.cells kA0 30)).drew) (Box.new V _ _) hba; (obtain ⟨y0, y1, y2⟩ := bA.c3; have g0 := bA.frozen 0; have g1 := bA.frozen 1; have g2 := bA.frozen 2); have hbA : V.heap.size ≤ V.heap.size := Nat.le_refl _; replace hc : Below V.heap.size V wa := ((alloc_below V (.cells kA0 30)).drew).trans (hba.mono ((alloc_below V (.cells kA0 30)).drew).size); have hcs := hc.size; clear hba)
        | ((with_reducible refine (row16_ok (World.alloc (World.alloc V (.cells (kS2 M.kA M.kC A1 A3 c1 c3) 40)) (.cells kA0 30)).drew).mono ?_); rintro e wa ⟨GA, gc, PA, pc, rfl, hG, hPq, hba⟩; have bS : Box wa (V.heap.size) (kS2 M.kA M.kC A1 A3 c1 c3) 40 := Box.below (w := (World.alloc (World.alloc V (.cells (kS2 M.kA M.kC A1 A3 c1 c3) 40)) (.cells kA0 30)).drew) ((Box.new V _ _).alloc _) hba; have bA : Box wa (V.heap.size + 1) kA0 30 := Box.below (w := (World.alloc (World.alloc V (.cells (kS2 M.kA M.kC A1 A3 c1 c3) 40)) (.cells kA0 30)).drew) (box_new2 V _ _ _ _) hba; (obtain ⟨y0, y1, y2⟩ := bA.c3; have g0 := bA.frozen 0; have g1 := bA.frozen 1; have g2 := bA.frozen 2); have hbA : V.heap.size ≤ V.heap.size + 1 := Nat.le_succ _; replace hc : Below V.heap.size V wa := (((alloc_below V (.cells (kS2 M.kA M.kC A1 A3 c1 c3) 40)).alloc (alloc_below V (.cells (kS2 M.kA M.kC A1 A3 c1 c3) 40)).size (.cells kA0 30)).drew).trans (hba.mono (((alloc_below V (.cells (kS2 M.kA M.kC A1 A3 c1 c3) 40)).alloc (alloc_below V (.cells (kS2 M.kA M.kC A1 A3 c1 c3) 40)).size (.cells kA0 30)).drew).size); have hcs := hc.size; clear hba)
        | ((with_reducible refine (row16_ok (World.alloc (World.alloc V (.cells kA0 30)) (.cells (kS2 M.kA M.kC A1 A3 c1 c3) 40)).drew).mono ?_); rintro e wa ⟨GA, gc, PA, pc, rfl, hG, hPq, hba⟩; have bA : Box wa (V.heap.size) kA0 30 := Box.below (w := (World.alloc (World.alloc V (.cells kA0 30)) (.cells (kS2 M.kA M.kC A1 A3 c1 c3) 40)).drew) ((Box.new V _ _).alloc _) hba; (obtain ⟨y0, y1, y2⟩ := bA.c3; have g0 := bA.frozen 0; have g1 := bA.frozen 1; have g2 := bA.frozen 2); have hbA : V.heap.size ≤ V.heap.size := Nat.le_refl _; have bS : Box wa (V.heap.size + 1) (kS2 M.kA M.kC A1 A3 c1 c3) 40 := Box.below (w := (World.alloc (World.alloc V (.cells kA0 30)) (.cells (kS2 M.kA M.kC A1 A3 c1 c3) 40)).drew) (box_new2 V _ _ _ _) hba; replace hc : Below V.heap.size V wa := (((alloc_below V (.cells kA0 30)).alloc (alloc_below V (.cells kA0 30)).size (.cells (kS2 M.kA M.kC A1 A3 c1 c3) 40)).drew).trans (hba.mono (((alloc_below V (.cells kA0 30)).alloc (alloc_below V (.cells kA0 30)).size (.cells (kS2 M.kA M.kC A1 A3 c1 c3) 40)).drew).size); have hcs := hc.size; clear hba)))
      | (go_at_call 24; (first
        | ((with_reducible refine (kB.out wa GA gc PA pc _ 2 (hc.trans ((Below.refl wa.heap.size wa).mono hc.size)) hG hPq (Sl.of_box (size := 8) (cell := secell) (xs := [⟨M.kA, A1, c1⟩, ⟨M.kC, A3, c3⟩]) bS rfl)).mono ?_); rintro e wb ⟨XA, xc, YA, yc, ZA, zc, rfl, hR, hcp, hbb, fX, fY, fZ⟩; (try (have hFl := bA.lt; clear y0 y1 y2 g0 g1 g2; replace bA := bA.below hbb; (obtain ⟨y0, y1, y2⟩ := bA.c3; have g0 := bA.frozen 0; have g1 := bA.frozen 1; have g2 := bA.frozen 2))); replace hc := (hc.trans ((Below.refl wa.heap.size wa).mono hc.size)).trans (hbb.mono (hc.trans ((Below.refl wa.heap.size wa).mono hc.size)).size); clear hbb)
        | ((with_reducible refine (kB.out (World.alloc wa (.cells kA0 30)) GA gc PA pc _ 2 (hc.trans ((alloc_below wa (.cells kA0 30)).mono hc.size)) ((hG.below (alloc_below wa (.cells kA0 30))).more (alloc_below wa (.cells kA0 30)).size) ((hPq.below (alloc_below wa (.cells kA0 30))).more (alloc_below wa (.cells kA0 30)).size) (Sl.of_box (size := 8) (cell := secell) (xs := [⟨M.kA, A1, c1⟩, ⟨M.kC, A3, c3⟩]) (bS.alloc _) rfl)).mono ?_); rintro e wb ⟨XA, xc, YA, yc, ZA, zc, rfl, hR, hcp, hbb, fX, fY, fZ⟩; have bA : Box wb (wa.heap.size) kA0 30 := Box.below (w := (World.alloc wa (.cells kA0 30))) (Box.new wa _ _) hbb; have hFl : wa.heap.size < (World.alloc wa (.cells kA0 30)).heap.size := Box.lt (w := (World.alloc wa (.cells kA0 30))) (Box.new wa _ _); (obtain ⟨y0, y1, y2⟩ := bA.c3; have g0 := bA.frozen 0; have g1 := bA.frozen 1; have g2 := bA.frozen 2); have hbA : V.heap.size ≤ wa.heap.size := hcs; replace hc := (hc.trans ((alloc_below wa (.cells kA0 30)).mono hc.size)).trans (hbb.mono (hc.trans ((alloc_below wa (.cells kA0 30)).mono hc.size)).size); clear hbb)
        | ((with_reducible refine (kB.out (World.alloc wa (.cells (kS2 M.kA M.kC A1 A3 c1 c3) 40)) GA gc PA pc _ 2 (hc.trans ((alloc_below wa (.cells (kS2 M.kA M.kC A1 A3 c1 c3) 40)).mono hc.size)) ((hG.below (alloc_below wa (.cells (kS2 M.kA M.kC A1 A3 c1 c3) 40))).more (alloc_below wa (.cells (kS2 M.kA M.kC A1 A3 c1 c3) 40)).size) ((hPq.below (alloc_below wa (.cells (kS2 M.kA M.kC A1 A3 c1 c3) 40))).more (alloc_below wa (.cells (kS2 M.kA M.kC A1 A3 c1 c3) 40)).size) (Sl.of_box (size := 8) (cell := secell) (xs := [⟨M.kA, A1, c1⟩, ⟨M.kC, A3, c3⟩]) (Box.new wa _ _) rfl)).mono ?_); rintro e wb ⟨XA, xc, YA, yc, ZA, zc, rfl, hR, hcp, hbb, fX, fY, fZ⟩; (try (have hFl := Box.lt (w := (World.alloc wa (.cells (kS2 M.kA M.kC A1 A3 c1 c3) 40))) (bA.alloc _); clear y0 y1 y2 g0 g1 g2; replace bA := (bA.alloc _).below hbb; (obtain ⟨y0, y1, y2⟩ := bA.c3; have g0 := bA.frozen 0; have g1 := bA.frozen 1; have g2 := bA.frozen 2))); replace hc := (hc.trans ((alloc_below wa (.cells (kS2 M.kA M.kC A1 A3 c1 c3) 40)).mono hc.size)).trans (hbb.mono (hc.trans ((alloc_below wa (.cells (kS2 M.kA M.kC A1 A3 c1 c3) 40)).mono hc.size)).size); clear hbb)
        | ((with_reducible refine (kB.out (World.alloc (World.alloc wa (.cells (kS2 M.kA M.kC A1 A3 c1 c3) 40)) (.cells kA0 30)) GA gc PA pc _ 2 (hc.trans (((alloc_below wa (.cells (kS2 M.kA M.kC A1 A3 c1 c3) 40)).alloc (alloc_below wa (.cells (kS2 M.kA M.kC A1 A3 c1 c3) 40)).size (.cells kA0 30)).mono hc.size)) ((hG.below ((alloc_below wa (.cells (kS2 M.kA M.kC A1 A3 c1 c3) 40)).alloc (alloc_below wa (.cells (kS2 M.kA M.kC A1 A3 c1 c3) 40)).size (.cells kA0 30))).more ((alloc_below wa (.cells (kS2 M.kA M.kC A1 A3 c1 c3) 40)).alloc (alloc_below wa (.cells (kS2 M.kA M.kC A1 A3 c1 c3) 40)).size (.cells kA0 30)).size) ((hPq.below ((alloc_below wa (.cells (kS2 M.kA M.kC A1 A3 c1 c3) 40)).alloc (alloc_below wa (.cells (kS2 M.kA M.kC A1 A3 c1 c3) 40)).size (.cells kA0 30))).more ((alloc_below wa (.cells (kS2 M.kA M.kC A1 A3 c1 c3) 40)).alloc (alloc_below wa (.cells (kS2 M.kA M.kC A1 A3 c1 c3) 40)).size (.cells kA0 30)).size) (Sl.of_box (size := 8) (cell := secell) (xs := [⟨M.kA, A1, c1⟩, ⟨M.kC, A3, c3⟩]) ((Box.new wa _ _).alloc _) rfl)).mono ?_); rintro e wb ⟨XA, xc, YA, yc, ZA, zc, rfl, hR, hcp, hbb, fX, fY, fZ⟩; have bS : Box wb (wa.heap.size) (kS2 M.kA M.kC A1 A3 c1 c3) 40 := Box.below (w := (World.alloc (World.alloc wa (.cells (kS2 M.kA M.kC A1 A3 c1 c3) 40)) (.cells kA0 30))) ((Box.new wa _ _).alloc _) hbb; have bA : Box wb (wa.heap.size + 1) kA0 30 := Box.below (w := (World.alloc (World.alloc wa (.cells (kS2 M.kA M.kC A1 A3 c1 c3) 40)) (.cells kA0 30))) (box_new2 wa _ _ _ _) hbb; have hFl : wa.heap.size + 1 < (World.alloc (World.alloc wa (.cells (kS2 M.kA M.kC A1 A3 c1 c3) 40)) (.cells kA0 30)).heap.size := Box.lt (w := (World.alloc (World.alloc wa (.cells (kS2 M.kA M.kC A1 A3 c1 c3) 40)) (.cells kA0 30))) (box_new2 wa _ _ _ _); (obtain ⟨y0, y1, y2⟩ := bA.c3; have g0 := bA.frozen 0; have g1 := bA.frozen 1; have g2 := bA.frozen 2); have hbA : V.heap.size ≤ wa.heap.size + 1 := Nat.le_succ_of_le hcs; replace hc := (hc.trans (((alloc_below wa (.cells (kS2 M.kA M.kC A1 A3 c1 c3) 40)).alloc (alloc_below wa (.cells (kS2 M.kA M.kC A1 A3 c1 c3) 40)).size (.cells kA0 30)).mono hc.size)).trans (hbb.mono (hc.trans (((alloc_below wa (.cells (kS2 M.kA M.kC A1 A3 c1 c3) 40)).alloc (alloc_below wa (.cells (kS2 M.kA M.kC A1 A3 c1 c3) 40)).size (.cells kA0 30)).mono hc.size)).size); clear hbb)
        | ((with_reducible refine (kB.out (World.alloc (World.alloc wa (.cells kA0 30)) (.cells (kS2 M.kA M.kC A1 A3 c1 c3) 40)) GA gc PA pc _ 2 (hc.trans (((alloc_below wa (.cells kA0 30)).alloc (alloc_below wa (.cells kA0 30)).size (.cells (kS2 M.kA M.kC A1 A3 c1 c3) 40)).mono hc.size)) ((hG.below ((alloc_below wa (.cells kA0 30)).alloc (alloc_below wa (.cells kA0 30)).size (.cells (kS2 M.kA M.kC A1 A3 c1 c3) 40))).more ((alloc_below wa (.cells kA0 30)).alloc (alloc_below wa (.cells kA0 30)).size (.cells (kS2 M.kA M.kC A1 A3 c1 c3) 40)).size) ((hPq.below ((alloc_below wa (.cells kA0 30)).alloc (alloc_below wa (.cells kA0 30)).size (.cells (kS2 M.kA M.kC A1 A3 c1 c3) 40))).more ((alloc_below wa (.cells kA0 30)).alloc (alloc_below wa (.cells kA0 30)).size (.cells (kS2 M.kA M.kC A1 A3 c1 c3) 40)).size) (Sl.of_box (size := 8) (cell := secell) (xs := [⟨M.kA, A1, c1⟩, ⟨M.kC, A3, c3⟩]) (box_new2 wa _ _ _ _) rfl)).mono ?_); rintro e wb ⟨XA, xc, YA, yc, ZA, zc, rfl, hR, hcp, hbb, fX, fY, fZ⟩; have bA : Box wb (wa.heap.size) kA0 30 := Box.below (w := (World.alloc (World.alloc wa (.cells kA0 30)) (.cells (kS2 M.kA M.kC A1 A3 c1 c3) 40))) ((Box.new wa _ _).alloc _) hbb; have hFl : wa.heap.size < (World.alloc (World.alloc wa (.cells kA0 30)) (.cells (kS2 M.kA M.kC A1 A3 c1 c3) 40)).heap.size := Box.lt (w := (World.alloc (World.alloc wa (.cells kA0 30)) (.cells (kS2 M.kA M.kC A1 A3 c1 c3) 40))) ((Box.new wa _ _).alloc _); (obtain ⟨y0, y1, y2⟩ := bA.c3; have g0 := bA.frozen 0; have g1 := bA.frozen 1; have g2 := bA.frozen 2); have hbA : V.heap.size ≤ wa.heap.size := hcs; have bS : Box wb (wa.heap.size + 1) (kS2 M.kA M.kC A1 A3 c1 c3) 40 := Box.below (w := (World.alloc (World.alloc wa (.cells kA0 30)) (.cells (kS2 M.kA M.kC A1 A3 c1 c3) 40))) (box_new2 wa _ _ _ _) hbb; replace hc := (hc.trans (((alloc_below wa (.cells kA0 30)).alloc (alloc_below wa (.cells kA0 30)).size (.cells (kS2 M.kA M.kC A1 A3 c1 c3) 40)).mono hc.size)).trans (hbb.mono (hc.trans (((alloc_below wa (.cells kA0 30)).alloc (alloc_below wa (.cells kA0 30)).size (.cells (kS2 M.kA M.kC A1 A3 c1 c3) 40)).mono hc.size)).size); clear hbb))))
  all_goals
    first
    | exact hQ _ _ _ _ _ _ _ _ _ _ XA YA ZA xc yc zc ⟨bA.set3, rw_set3 hR (fun ad h => Nat.lt_of_lt_of_le hFl (fX ad h)) (fun ad h => Nat.lt_of_lt_of_le hFl (fY ad h)) (fun ad h => Nat.lt_of_lt_of_le hFl (fZ ad h)), hcp⟩ (below_set3 hc hbA)
    | exact hQ _ _ _ _ _ _ _ _ _ _ XA YA ZA xc yc zc ⟨Box.new _ _ _, rw_alloc hR _, hcp⟩ (hc.alloc hc.size _)
set_option maxHeartbeats 32000000 in
theorem kn16_reg7 {Q : Exit → Act → World → Prop} {cd : Code} {dl : List Deferred} {s0 s4 s5 s6 s7 s8 s9 s10 s11 s12 s13 s14 s15 s16 s17 s18 s19 s20 s21 s22 s23 s24 s25 s26 s27 s28 s29 s30 s31 s32 s33 s34 s35 s36 s37 s38 s39 s40 s41 s42 s43 s44 s45 s46 s47 s48 s49 s50 s51 s52 s53 s54 s55 s56 s57 s58 s59 s60 s61 s62 s63 s64 s65 s66 s67 s68 s69 s70 s71 s72 s73 s74 s75 s76 s77 s78 s79 s80 s81 s82 s83 s84 s85 s86 s87 s88 s89 s90 s91 s92 s93 s94 s95 s96 s97 s98 s99 s100 s101 s102 s103 s104 s105 s106 s107 s108 s109 s110 s111 s112 s113 s114 s115 s116 s117 s118 s119 s120 s121 s122 s123 s124 s125 s126 s127 s128 s129 s130 s131 s132 s133 s134 : Value} (w0 V : World) (ba bb bc : Nat) (A1 A2 A3 : Option Addr) (c1 c2 c3 : Nat) (kw : K16 w0 V ba bb bc A1 A2 A3 c1 c2 c3) (hcd : (Tryz.f16.body.bind (regionOf 7)) = some cd)
    (hQ : ∀ (y52 y53 y54 y55 y56 y57 y58 y59 : Value) (wo : World) (bR : Nat) (XA YA ZA : Option Addr) (xc yc zc : Nat), RX V wo bR XA YA ZA 0 0 0 xc yc zc ([] : List P5) ([] : List P5) ([] : List P4) → Below V.heap.size V wo → Q .normal ⟨#[s0, .pointer (some ⟨ba, 0, none⟩), .pointer (some ⟨bb, 0, none⟩), .pointer (some ⟨bc, 0, none⟩), s4, s5, s6, s7, s8, .pointer (some ⟨bR, 0, none⟩), .int .i64 2, s11, s12, s13, s14, s15, s16, s17, s18, s19, s20, s21, s22, s23, s24, s25, s26, s27, s28, s29, s30, s31, s32, s33, s34, s35, s36, s37, s38, s39, s40, s41, s42, s43, s44, s45, s46, s47, s48, s49, s50, s51, y52, y53, y54, y55, y56, y57, y58, y59, s60, s61, s62, s63, s64, s65, s66, s67, s68, s69, s70, s71, s72, s73, s74, s75, s76, s77, s78, s79, s80, s81, s82, s83, s84, s85, s86, s87, s88, s89, s90, s91, s92, s93, s94, s95, s96, s97, s98, s99, s100, s101, s102, s103, s104, s105, s106, s107, s108, s109, s110, s111, s112, s113, s114, s115, s116, s117, s118, s119, s120, s121, s122, s123, s124, s125, s126, s127, s128, s129, s130, s131, s132, s133, s134], dl⟩ wo) :
    cd.wp Tryz.prog Q ⟨#[s0, .pointer (some ⟨ba, 0, none⟩), .pointer (some ⟨bb, 0, none⟩), .pointer (some ⟨bc, 0, none⟩), s4, s5, s6, s7, s8, s9, s10, s11, s12, s13, s14, s15, s16, s17, s18, s19, s20, s21, s22, s23, s24, s25, s26, s27, s28, s29, s30, s31, s32, s33, s34, s35, s36, s37, s38, s39, s40, s41, s42, s43, s44, s45, s46, s47, s48, s49, s50, s51, s52, s53, s54, s55, s56, s57, s58, s59, s60, s61, s62, s63, s64, s65, s66, s67, s68, s69, s70, s71, s72, s73, s74, s75, s76, s77, s78, s79, s80, s81, s82, s83, s84, s85, s86, s87, s88, s89, s90, s91, s92, s93, s94, s95, s96, s97, s98, s99, s100, s101, s102, s103, s104, s105, s106, s107, s108, s109, s110, s111, s112, s113, s114, s115, s116, s117, s118, s119, s120, s121, s122, s123, s124, s125, s126, s127, s128, s129, s130, s131, s132, s133, s134], dl⟩ V := by
  rw [show (Tryz.f16.body.bind (regionOf 7)) = some (Code.region 7 _ true) from rfl] at hcd
  obtain rfl := Option.some.inj hcd
  clear hcd
  have kB : Hid (∀ wx GA gc PA pc LA lc, Below V.heap.size V wx → Sl 1 icell wx wx.heap.size GA M.pG → Sl 1 icell wx wx.heap.size PA M.pP → Sl 8 secell wx wx.heap.size LA [⟨M.kB, A2, c2⟩, ⟨M.kA, A1, c1⟩] → Calls Tryz.prog 24 #[tv 9 1 GA PA 9 gc 9 pc, .slice LA 2 lc, .int .i64 3] wx (fun e w' => ∃ XA xc YA yc ZA zc, e = .returned (.tuple #[ruv XA 0 xc YA 0 yc ZA 0 zc, .int .i64 2]) ∧ RW w' XA YA ZA ([] : List P5) ([] : List P5) ([] : List P4) ∧ (0 ≤ xc ∧ 0 ≤ yc ∧ 0 ≤ zc) ∧ Below wx.heap.size wx w' ∧ (∀ ad, XA = some ad → wx.heap.size ≤ ad.block) ∧ (∀ ad, YA = some ad → wx.heap.size ≤ ad.block) ∧ ∀ ad, ZA = some ad → wx.heap.size ≤ ad.block)) := Lib.hid (fun wx GA gc PA pc LA lc hbx hG hPq hL => by
    have kx := kw.next hbx
    have kk := cbuild_arg 9 1 GA PA gc pc M.pG M.pP LA lc [⟨M.kB, A2, c2⟩, ⟨M.kA, A1, c1⟩] 3 wx kx.tab hG hPq hL (pats16 kx.s2 kx.s1) (by decide) (by decide) (by simp) (pl16 (by decide) (by decide)) (by decide) M.k16ba
    exact kk)
  have hel : ∀ wx, Below V.heap.size V wx → wx.cell? ⟨bb, 0, none⟩ = some (.int .i64 M.kB.id) ∧ wx.cell? ⟨bb, 1, none⟩ = some (.int .i64 M.kB.x) ∧ wx.cell? ⟨bb, 2, none⟩ = some (.int .i64 M.kB.y) ∧ wx.cell? ⟨bb, 3, none⟩ = some (.int .i64 M.kB.pw) ∧ wx.cell? ⟨bb, 4, none⟩ = some (.int .i64 M.kB.h) ∧ wx.cell? ⟨bb, 5, none⟩ = some (.slice A2 M.kB.pat.length c2) ∧ wx.cell? ⟨bb, 6, none⟩ = some (.int .i64 M.kB.band) ∧ wx.cell? ⟨bb, 7, none⟩ = some (.int .i64 M.kB.ch) ∧ wx.cell? ⟨ba, 0, none⟩ = some (.int .i64 M.kA.id) ∧ wx.cell? ⟨ba, 1, none⟩ = some (.int .i64 M.kA.x) ∧ wx.cell? ⟨ba, 2, none⟩ = some (.int .i64 M.kA.y) ∧ wx.cell? ⟨ba, 3, none⟩ = some (.int .i64 M.kA.pw) ∧ wx.cell? ⟨ba, 4, none⟩ = some (.int .i64 M.kA.h) ∧ wx.cell? ⟨ba, 5, none⟩ = some (.slice A1 M.kA.pat.length c1) ∧ wx.cell? ⟨ba, 6, none⟩ = some (.int .i64 M.kA.band) ∧ wx.cell? ⟨ba, 7, none⟩ = some (.int .i64 M.kA.ch) := fun wx hbx => heldS (kw.b.below hbx) (kw.a.below hbx)
  have hc : Below V.heap.size V V.drew := (Below.refl _ _).drew
  have h0 := hel _ hc
  have h1 := hel _ (Below.refl _ _)
  clear kw
  go_region_held3 (fun w' => w'.cell? ⟨bb, 0, none⟩ = some (.int .i64 M.kB.id) ∧ w'.cell? ⟨bb, 1, none⟩ = some (.int .i64 M.kB.x) ∧ w'.cell? ⟨bb, 2, none⟩ = some (.int .i64 M.kB.y) ∧ w'.cell? ⟨bb, 3, none⟩ = some (.int .i64 M.kB.pw) ∧ w'.cell? ⟨bb, 4, none⟩ = some (.int .i64 M.kB.h) ∧ w'.cell? ⟨bb, 5, none⟩ = some (.slice A2 M.kB.pat.length c2) ∧ w'.cell? ⟨bb, 6, none⟩ = some (.int .i64 M.kB.band) ∧ w'.cell? ⟨bb, 7, none⟩ = some (.int .i64 M.kB.ch) ∧ w'.cell? ⟨ba, 0, none⟩ = some (.int .i64 M.kA.id) ∧ w'.cell? ⟨ba, 1, none⟩ = some (.int .i64 M.kA.x) ∧ w'.cell? ⟨ba, 2, none⟩ = some (.int .i64 M.kA.y) ∧ w'.cell? ⟨ba, 3, none⟩ = some (.int .i64 M.kA.pw) ∧ w'.cell? ⟨ba, 4, none⟩ = some (.int .i64 M.kA.h) ∧ w'.cell? ⟨ba, 5, none⟩ = some (.slice A1 M.kA.pat.length c1) ∧ w'.cell? ⟨ba, 6, none⟩ = some (.int .i64 M.kA.band) ∧ w'.cell? ⟨ba, 7, none⟩ = some (.int .i64 M.kA.ch)) (first | with_reducible exact h0 | with_reducible exact h1 | with_reducible exact hel _ hc | with_reducible exact hel _ ((alloc_below V (.cells (kS2 M.kB M.kA A2 A1 c2 c1) 40)).drew) | with_reducible exact hel _ ((alloc_below V (.cells kA0 30)).drew) | with_reducible exact hel _ (((alloc_below V (.cells (kS2 M.kB M.kA A2 A1 c2 c1) 40)).alloc (alloc_below V (.cells (kS2 M.kB M.kA A2 A1 c2 c1) 40)).size (.cells kA0 30)).drew) | with_reducible exact hel _ (((alloc_below V (.cells kA0 30)).alloc (alloc_below V (.cells kA0 30)).size (.cells (kS2 M.kB M.kA A2 A1 c2 c1) 40)).drew) | with_reducible exact hel _ (hc.trans ((alloc_below wa (.cells (kS2 M.kB M.kA A2 A1 c2 c1) 40)).mono hc.size)) | with_reducible exact hel _ (hc.trans ((alloc_below wa (.cells kA0 30)).mono hc.size)) | with_reducible exact hel _ (hc.trans (((alloc_below wa (.cells (kS2 M.kB M.kA A2 A1 c2 c1) 40)).alloc (alloc_below wa (.cells (kS2 M.kB M.kA A2 A1 c2 c1) 40)).size (.cells kA0 30)).mono hc.size)) | with_reducible exact hel _ (hc.trans (((alloc_below wa (.cells kA0 30)).alloc (alloc_below wa (.cells kA0 30)).size (.cells (kS2 M.kB M.kA A2 A1 c2 c1) 40)).mono hc.size)) | with_reducible exact hel _ (hc.trans ((alloc_below wb (.cells (kS2 M.kB M.kA A2 A1 c2 c1) 40)).mono hc.size)) | with_reducible exact hel _ (hc.trans ((alloc_below wb (.cells kA0 30)).mono hc.size)) | with_reducible exact hel _ (hc.trans (((alloc_below wb (.cells (kS2 M.kB M.kA A2 A1 c2 c1) 40)).alloc (alloc_below wb (.cells (kS2 M.kB M.kA A2 A1 c2 c1) 40)).size (.cells kA0 30)).mono hc.size)) | with_reducible exact hel _ (hc.trans (((alloc_below wb (.cells kA0 30)).alloc (alloc_below wb (.cells kA0 30)).size (.cells (kS2 M.kB M.kA A2 A1 c2 c1) 40)).mono hc.size)) | with_reducible exact hel _ (hc.alloc hc.size _) | with_reducible exact hel _ (below_set3 hc hbA))
    (first
      | (go_at_call 56; (first
        | ((with_reducible refine (row16_ok V.drew).mono ?_); rintro e wa ⟨GA, gc, PA, pc, rfl, hG, hPq, hba⟩; replace hc : Below V.heap.size V wa := ((Below.refl V.heap.size V).drew).trans (hba.mono ((Below.refl V.heap.size V).drew).size); have hcs := hc.size; clear hba)
        | ((with_reducible refine (row16_ok (World.alloc V (.cells (kS2 M.kB M.kA A2 A1 c2 c1) 40)).drew).mono ?_); rintro e wa ⟨GA, gc, PA, pc, rfl, hG, hPq, hba⟩; have bS : Box wa (V.heap.size) (kS2 M.kB M.kA A2 A1 c2 c1) 40 := Box.below (w := (World.alloc V (.cells (kS2 M.kB M.kA A2 A1 c2 c1) 40)).drew) (Box.new V _ _) hba; replace hc : Below V.heap.size V wa := ((alloc_below V (.cells (kS2 M.kB M.kA A2 A1 c2 c1) 40)).drew).trans (hba.mono ((alloc_below V (.cells (kS2 M.kB M.kA A2 A1 c2 c1) 40)).drew).size); have hcs := hc.size; clear hba)
        | ((with_reducible refine (row16_ok (World.alloc V (.cells kA0 30)).drew).mono ?_); rintro e wa ⟨GA, gc, PA, pc, rfl, hG, hPq, hba⟩; have bA : Box wa (V.heap.size) kA0 30 := Box.below (w := (World.alloc V (.cells kA0 30)).drew) (Box.new V _ _) hba; (obtain ⟨y0, y1, y2⟩ := bA.c3; have g0 := bA.frozen 0; have g1 := bA.frozen 1; have g2 := bA.frozen 2); have hbA : V.heap.size ≤ V.heap.size := Nat.le_refl _; replace hc : Below V.heap.size V wa := ((alloc_below V (.cells kA0 30)).drew).trans (hba.mono ((alloc_below V (.cells kA0 30)).drew).size); have hcs := hc.size; clear hba)
        | ((with_reducible refine (row16_ok (World.alloc (World.alloc V (.cells (kS2 M.kB M.kA A2 A1 c2 c1) 40)) (.cells kA0 30)).drew).mono ?_); rintro e wa ⟨GA, gc, PA, pc, rfl, hG, hPq, hba⟩; have bS : Box wa (V.heap.size) (kS2 M.kB M.kA A2 A1 c2 c1) 40 := Box.below (w := (World.alloc (World.alloc V (.cells (kS2 M.kB M.kA A2 A1 c2 c1) 40)) (.cells kA0 30)).drew) ((Box.new V _ _).alloc _) hba; have bA : Box wa (V.heap.size + 1) kA0 30 := Box.below (w := (World.alloc (World.alloc V (.cells (kS2 M.kB M.kA A2 A1 c2 c1) 40)) (.cells kA0 30)).drew) (box_new2 V _ _ _ _) hba; (obtain ⟨y0, y1, y2⟩ := bA.c3; have g0 := bA.frozen 0; have g1 := bA.frozen 1; have g2 := bA.frozen 2); have hbA : V.heap.size ≤ V.heap.size + 1 := Nat.le_succ _; replace hc : Below V.heap.size V wa := (((alloc_below V (.cells (kS2 M.kB M.kA A2 A1 c2 c1) 40)).alloc (alloc_below V (.cells (kS2 M.kB M.kA A2 A1 c2 c1) 40)).size (.cells kA0 30)).drew).trans (hba.mono (((alloc_below V (.cells (kS2 M.kB M.kA A2 A1 c2 c1) 40)).alloc (alloc_below V (.cells (kS2 M.kB M.kA A2 A1 c2 c1) 40)).size (.cells kA0 30)).drew).size); have hcs := hc.size; clear hba)
        | ((with_reducible refine (row16_ok (World.alloc (World.alloc V (.cells kA0 30)) (.cells (kS2 M.kB M.kA A2 A1 c2 c1) 40)).drew).mono ?_); rintro e wa ⟨GA, gc, PA, pc, rfl, hG, hPq, hba⟩; have bA : Box wa (V.heap.size) kA0 30 := Box.below (w := (World.alloc (World.alloc V (.cells kA0 30)) (.cells (kS2 M.kB M.kA A2 A1 c2 c1) 40)).drew) ((Box.new V _ _).alloc _) hba; (obtain ⟨y0, y1, y2⟩ := bA.c3; have g0 := bA.frozen 0; have g1 := bA.frozen 1; have g2 := bA.frozen 2); have hbA : V.heap.size ≤ V.heap.size := Nat.le_refl _; have bS : Box wa (V.heap.size + 1) (kS2 M.kB M.kA A2 A1 c2 c1) 40 := Box.below (w := (World.alloc (World.alloc V (.cells kA0 30)) (.cells (kS2 M.kB M.kA A2 A1 c2 c1) 40)).drew) (box_new2 V _ _ _ _) hba; replace hc : Below V.heap.size V wa := (((alloc_below V (.cells kA0 30)).alloc (alloc_below V (.cells kA0 30)).size (.cells (kS2 M.kB M.kA A2 A1 c2 c1) 40)).drew).trans (hba.mono (((alloc_below V (.cells kA0 30)).alloc (alloc_below V (.cells kA0 30)).size (.cells (kS2 M.kB M.kA A2 A1 c2 c1) 40)).drew).size); have hcs := hc.size; clear hba)))
      | (go_at_call 24; (first
        | ((with_reducible refine (kB.out wa GA gc PA pc _ 2 (hc.trans ((Below.refl wa.heap.size wa).mono hc.size)) hG hPq (Sl.of_box (size := 8) (cell := secell) (xs := [⟨M.kB, A2, c2⟩, ⟨M.kA, A1, c1⟩]) bS rfl)).mono ?_); rintro e wb ⟨XA, xc, YA, yc, ZA, zc, rfl, hR, hcp, hbb, fX, fY, fZ⟩; (try (have hFl := bA.lt; clear y0 y1 y2 g0 g1 g2; replace bA := bA.below hbb; (obtain ⟨y0, y1, y2⟩ := bA.c3; have g0 := bA.frozen 0; have g1 := bA.frozen 1; have g2 := bA.frozen 2))); replace hc := (hc.trans ((Below.refl wa.heap.size wa).mono hc.size)).trans (hbb.mono (hc.trans ((Below.refl wa.heap.size wa).mono hc.size)).size); clear hbb)
        | ((with_reducible refine (kB.out (World.alloc wa (.cells kA0 30)) GA gc PA pc _ 2 (hc.trans ((alloc_below wa (.cells kA0 30)).mono hc.size)) ((hG.below (alloc_below wa (.cells kA0 30))).more (alloc_below wa (.cells kA0 30)).size) ((hPq.below (alloc_below wa (.cells kA0 30))).more (alloc_below wa (.cells kA0 30)).size) (Sl.of_box (size := 8) (cell := secell) (xs := [⟨M.kB, A2, c2⟩, ⟨M.kA, A1, c1⟩]) (bS.alloc _) rfl)).mono ?_); rintro e wb ⟨XA, xc, YA, yc, ZA, zc, rfl, hR, hcp, hbb, fX, fY, fZ⟩; have bA : Box wb (wa.heap.size) kA0 30 := Box.below (w := (World.alloc wa (.cells kA0 30))) (Box.new wa _ _) hbb; have hFl : wa.heap.size < (World.alloc wa (.cells kA0 30)).heap.size := Box.lt (w := (World.alloc wa (.cells kA0 30))) (Box.new wa _ _); (obtain ⟨y0, y1, y2⟩ := bA.c3; have g0 := bA.frozen 0; have g1 := bA.frozen 1; have g2 := bA.frozen 2); have hbA : V.heap.size ≤ wa.heap.size := hcs; replace hc := (hc.trans ((alloc_below wa (.cells kA0 30)).mono hc.size)).trans (hbb.mono (hc.trans ((alloc_below wa (.cells kA0 30)).mono hc.size)).size); clear hbb)
        | ((with_reducible refine (kB.out (World.alloc wa (.cells (kS2 M.kB M.kA A2 A1 c2 c1) 40)) GA gc PA pc _ 2 (hc.trans ((alloc_below wa (.cells (kS2 M.kB M.kA A2 A1 c2 c1) 40)).mono hc.size)) ((hG.below (alloc_below wa (.cells (kS2 M.kB M.kA A2 A1 c2 c1) 40))).more (alloc_below wa (.cells (kS2 M.kB M.kA A2 A1 c2 c1) 40)).size) ((hPq.below (alloc_below wa (.cells (kS2 M.kB M.kA A2 A1 c2 c1) 40))).more (alloc_below wa (.cells (kS2 M.kB M.kA A2 A1 c2 c1) 40)).size) (Sl.of_box (size := 8) (cell := secell) (xs := [⟨M.kB, A2, c2⟩, ⟨M.kA, A1, c1⟩]) (Box.new wa _ _) rfl)).mono ?_); rintro e wb ⟨XA, xc, YA, yc, ZA, zc, rfl, hR, hcp, hbb, fX, fY, fZ⟩; (try (have hFl := Box.lt (w := (World.alloc wa (.cells (kS2 M.kB M.kA A2 A1 c2 c1) 40))) (bA.alloc _); clear y0 y1 y2 g0 g1 g2; replace bA := (bA.alloc _).below hbb; (obtain ⟨y0, y1, y2⟩ := bA.c3; have g0 := bA.frozen 0; have g1 := bA.frozen 1; have g2 := bA.frozen 2))); replace hc := (hc.trans ((alloc_below wa (.cells (kS2 M.kB M.kA A2 A1 c2 c1) 40)).mono hc.size)).trans (hbb.mono (hc.trans ((alloc_below wa (.cells (kS2 M.kB M.kA A2 A1 c2 c1) 40)).mono hc.size)).size); clear hbb)
        | ((with_reducible refine (kB.out (World.alloc (World.alloc wa (.cells (kS2 M.kB M.kA A2 A1 c2 c1) 40)) (.cells kA0 30)) GA gc PA pc _ 2 (hc.trans (((alloc_below wa (.cells (kS2 M.kB M.kA A2 A1 c2 c1) 40)).alloc (alloc_below wa (.cells (kS2 M.kB M.kA A2 A1 c2 c1) 40)).size (.cells kA0 30)).mono hc.size)) ((hG.below ((alloc_below wa (.cells (kS2 M.kB M.kA A2 A1 c2 c1) 40)).alloc (alloc_below wa (.cells (kS2 M.kB M.kA A2 A1 c2 c1) 40)).size (.cells kA0 30))).more ((alloc_below wa (.cells (kS2 M.kB M.kA A2 A1 c2 c1) 40)).alloc (alloc_below wa (.cells (kS2 M.kB M.kA A2 A1 c2 c1) 40)).size (.cells kA0 30)).size) ((hPq.below ((alloc_below wa (.cells (kS2 M.kB M.kA A2 A1 c2 c1) 40)).alloc (alloc_below wa (.cells (kS2 M.kB M.kA A2 A1 c2 c1) 40)).size (.cells kA0 30))).more ((alloc_below wa (.cells (kS2 M.kB M.kA A2 A1 c2 c1) 40)).alloc (alloc_below wa (.cells (kS2 M.kB M.kA A2 A1 c2 c1) 40)).size (.cells kA0 30)).size) (Sl.of_box (size := 8) (cell := secell) (xs := [⟨M.kB, A2, c2⟩, ⟨M.kA, A1, c1⟩]) ((Box.new wa _ _).alloc _) rfl)).mono ?_); rintro e wb ⟨XA, xc, YA, yc, ZA, zc, rfl, hR, hcp, hbb, fX, fY, fZ⟩; have bS : Box wb (wa.heap.size) (kS2 M.kB M.kA A2 A1 c2 c1) 40 := Box.below (w := (World.alloc (World.alloc wa (.cells (kS2 M.kB M.kA A2 A1 c2 c1) 40)) (.cells kA0 30))) ((Box.new wa _ _).alloc _) hbb; have bA : Box wb (wa.heap.size + 1) kA0 30 := Box.below (w := (World.alloc (World.alloc wa (.cells (kS2 M.kB M.kA A2 A1 c2 c1) 40)) (.cells kA0 30))) (box_new2 wa _ _ _ _) hbb; have hFl : wa.heap.size + 1 < (World.alloc (World.alloc wa (.cells (kS2 M.kB M.kA A2 A1 c2 c1) 40)) (.cells kA0 30)).heap.size := Box.lt (w := (World.alloc (World.alloc wa (.cells (kS2 M.kB M.kA A2 A1 c2 c1) 40)) (.cells kA0 30))) (box_new2 wa _ _ _ _); (obtain ⟨y0, y1, y2⟩ := bA.c3; have g0 := bA.frozen 0; have g1 := bA.frozen 1; have g2 := bA.frozen 2); have hbA : V.heap.size ≤ wa.heap.size + 1 := Nat.le_succ_of_le hcs; replace hc := (hc.trans (((alloc_below wa (.cells (kS2 M.kB M.kA A2 A1 c2 c1) 40)).alloc (alloc_below wa (.cells (kS2 M.kB M.kA A2 A1 c2 c1) 40)).size (.cells kA0 30)).mono hc.size)).trans (hbb.mono (hc.trans (((alloc_below wa (.cells (kS2 M.kB M.kA A2 A1 c2 c1) 40)).alloc (alloc_below wa (.cells (kS2 M.kB M.kA A2 A1 c2 c1) 40)).size (.cells kA0 30)).mono hc.size)).size); clear hbb)
        | ((with_reducible refine (kB.out (World.alloc (World.alloc wa (.cells kA0 30)) (.cells (kS2 M.kB M.kA A2 A1 c2 c1) 40)) GA gc PA pc _ 2 (hc.trans (((alloc_below wa (.cells kA0 30)).alloc (alloc_below wa (.cells kA0 30)).size (.cells (kS2 M.kB M.kA A2 A1 c2 c1) 40)).mono hc.size)) ((hG.below ((alloc_below wa (.cells kA0 30)).alloc (alloc_below wa (.cells kA0 30)).size (.cells (kS2 M.kB M.kA A2 A1 c2 c1) 40))).more ((alloc_below wa (.cells kA0 30)).alloc (alloc_below wa (.cells kA0 30)).size (.cells (kS2 M.kB M.kA A2 A1 c2 c1) 40)).size) ((hPq.below ((alloc_below wa (.cells kA0 30)).alloc (alloc_below wa (.cells kA0 30)).size (.cells (kS2 M.kB M.kA A2 A1 c2 c1) 40))).more ((alloc_below wa (.cells kA0 30)).alloc (alloc_below wa (.cells kA0 30)).size (.cells (kS2 M.kB M.kA A2 A1 c2 c1) 40)).size) (Sl.of_box (size := 8) (cell := secell) (xs := [⟨M.kB, A2, c2⟩, ⟨M.kA, A1, c1⟩]) (box_new2 wa _ _ _ _) rfl)).mono ?_); rintro e wb ⟨XA, xc, YA, yc, ZA, zc, rfl, hR, hcp, hbb, fX, fY, fZ⟩; have bA : Box wb (wa.heap.size) kA0 30 := Box.below (w := (World.alloc (World.alloc wa (.cells kA0 30)) (.cells (kS2 M.kB M.kA A2 A1 c2 c1) 40))) ((Box.new wa _ _).alloc _) hbb; have hFl : wa.heap.size < (World.alloc (World.alloc wa (.cells kA0 30)) (.cells (kS2 M.kB M.kA A2 A1 c2 c1) 40)).heap.size := Box.lt (w := (World.alloc (World.alloc wa (.cells kA0 30)) (.cells (kS2 M.kB M.kA A2 A1 c2 c1) 40))) ((Box.new wa _ _).alloc _); (obtain ⟨y0, y1, y2⟩ := bA.c3; have g0 := bA.frozen 0; have g1 := bA.frozen 1; have g2 := bA.frozen 2); have hbA : V.heap.size ≤ wa.heap.size := hcs; have bS : Box wb (wa.heap.size + 1) (kS2 M.kB M.kA A2 A1 c2 c1) 40 := Box.below (w := (World.alloc (World.alloc wa (.cells kA0 30)) (.cells (kS2 M.kB M.kA A2 A1 c2 c1) 40))) (box_new2 wa _ _ _ _) hbb; replace hc := (hc.trans (((alloc_below wa (.cells kA0 30)).alloc (alloc_below wa (.cells kA0 30)).size (.cells (kS2 M.kB M.kA A2 A1 c2 c1) 40)).mono hc.size)).trans (hbb.mono (hc.trans (((alloc_below wa (.cells kA0 30)).alloc (alloc_below wa (.cells kA0 30)).size (.cells (kS2 M.kB M.kA A2 A1 c2 c1) 40)).mono hc.size)).size); clear hbb))))
  all_goals
    first
    | exact hQ _ _ _ _ _ _ _ _ _ _ XA YA ZA xc yc zc ⟨bA.set3, rw_set3 hR (fun ad h => Nat.lt_of_lt_of_le hFl (fX ad h)) (fun ad h => Nat.lt_of_lt_of_le hFl (fY ad h)) (fun ad h => Nat.lt_of_lt_of_le hFl (fZ ad h)), hcp⟩ (below_set3 hc hbA)
    | exact hQ _ _ _ _ _ _ _ _ _ _ XA YA ZA xc yc zc ⟨Box.new _ _ _, rw_alloc hR _, hcp⟩ (hc.alloc hc.size _)
set_option maxHeartbeats 32000000 in
theorem kn16_reg8 {Q : Exit → Act → World → Prop} {cd : Code} {dl : List Deferred} {s0 s4 s5 s6 s7 s8 s9 s10 s11 s12 s13 s14 s15 s16 s17 s18 s19 s20 s21 s22 s23 s24 s25 s26 s27 s28 s29 s30 s31 s32 s33 s34 s35 s36 s37 s38 s39 s40 s41 s42 s43 s44 s45 s46 s47 s48 s49 s50 s51 s52 s53 s54 s55 s56 s57 s58 s59 s60 s61 s62 s63 s64 s65 s66 s67 s68 s69 s70 s71 s72 s73 s74 s75 s76 s77 s78 s79 s80 s81 s82 s83 s84 s85 s86 s87 s88 s89 s90 s91 s92 s93 s94 s95 s96 s97 s98 s99 s100 s101 s102 s103 s104 s105 s106 s107 s108 s109 s110 s111 s112 s113 s114 s115 s116 s117 s118 s119 s120 s121 s122 s123 s124 s125 s126 s127 s128 s129 s130 s131 s132 s133 s134 : Value} (w0 V : World) (ba bb bc : Nat) (A1 A2 A3 : Option Addr) (c1 c2 c3 : Nat) (kw : K16 w0 V ba bb bc A1 A2 A3 c1 c2 c3) (hcd : (Tryz.f16.body.bind (regionOf 8)) = some cd)
    (hQ : ∀ (y60 y61 y62 y63 y64 y65 y66 : Value) (wo : World) (bR : Nat) (XA YA ZA : Option Addr) (xc yc zc : Nat), RX V wo bR XA YA ZA 0 0 0 xc yc zc ([] : List P5) ([] : List P5) ([] : List P4) → Below V.heap.size V wo → Q .normal ⟨#[s0, .pointer (some ⟨ba, 0, none⟩), .pointer (some ⟨bb, 0, none⟩), .pointer (some ⟨bc, 0, none⟩), s4, s5, s6, s7, s8, s9, s10, .pointer (some ⟨bR, 0, none⟩), .int .i64 2, s13, s14, s15, s16, s17, s18, s19, s20, s21, s22, s23, s24, s25, s26, s27, s28, s29, s30, s31, s32, s33, s34, s35, s36, s37, s38, s39, s40, s41, s42, s43, s44, s45, s46, s47, s48, s49, s50, s51, s52, s53, s54, s55, s56, s57, s58, s59, y60, y61, y62, y63, y64, y65, y66, s67, s68, s69, s70, s71, s72, s73, s74, s75, s76, s77, s78, s79, s80, s81, s82, s83, s84, s85, s86, s87, s88, s89, s90, s91, s92, s93, s94, s95, s96, s97, s98, s99, s100, s101, s102, s103, s104, s105, s106, s107, s108, s109, s110, s111, s112, s113, s114, s115, s116, s117, s118, s119, s120, s121, s122, s123, s124, s125, s126, s127, s128, s129, s130, s131, s132, s133, s134], dl⟩ wo) :
    cd.wp Tryz.prog Q ⟨#[s0, .pointer (some ⟨ba, 0, none⟩), .pointer (some ⟨bb, 0, none⟩), .pointer (some ⟨bc, 0, none⟩), s4, s5, s6, s7, s8, s9, s10, s11, s12, s13, s14, s15, s16, s17, s18, s19, s20, s21, s22, s23, s24, s25, s26, s27, s28, s29, s30, s31, s32, s33, s34, s35, s36, s37, s38, s39, s40, s41, s42, s43, s44, s45, s46, s47, s48, s49, s50, s51, s52, s53, s54, s55, s56, s57, s58, s59, s60, s61, s62, s63, s64, s65, s66, s67, s68, s69, s70, s71, s72, s73, s74, s75, s76, s77, s78, s79, s80, s81, s82, s83, s84, s85, s86, s87, s88, s89, s90, s91, s92, s93, s94, s95, s96, s97, s98, s99, s100, s101, s102, s103, s104, s105, s106, s107, s108, s109, s110, s111, s112, s113, s114, s115, s116, s117, s118, s119, s120, s121, s122, s123, s124, s125, s126, s127, s128, s129, s130, s131, s132, s133, s134], dl⟩ V := by
  rw [show (Tryz.f16.body.bind (regionOf 8)) = some (Code.region 8 _ true) from rfl] at hcd
  obtain rfl := Option.some.inj hcd
  clear hcd
  have kB : Hid (∀ wx GA gc PA pc LA lc, Below V.heap.size V wx → Sl 1 icell wx wx.heap.size GA M.pG → Sl 1 icell wx wx.heap.size PA M.pP → Sl 8 secell wx wx.heap.size LA [⟨M.kA, A1, c1⟩] → Calls Tryz.prog 24 #[tv 9 1 GA PA 9 gc 9 pc, .slice LA 1 lc, .int .i64 0] wx (fun e w' => ∃ XA xc YA yc ZA zc, e = .returned (.tuple #[ruv XA 0 xc YA 0 yc ZA 0 zc, .int .i64 2]) ∧ RW w' XA YA ZA ([] : List P5) ([] : List P5) ([] : List P4) ∧ (0 ≤ xc ∧ 0 ≤ yc ∧ 0 ≤ zc) ∧ Below wx.heap.size wx w' ∧ (∀ ad, XA = some ad → wx.heap.size ≤ ad.block) ∧ (∀ ad, YA = some ad → wx.heap.size ≤ ad.block) ∧ ∀ ad, ZA = some ad → wx.heap.size ≤ ad.block)) := Lib.hid (fun wx GA gc PA pc LA lc hbx hG hPq hL => by
    have kx := kw.next hbx
    have kk := cbuild_band 9 1 GA PA gc pc 9 9 LA lc 1 0 wx (by decide)
    exact kk)
  have hel : ∀ wx, Below V.heap.size V wx → wx.cell? ⟨ba, 0, none⟩ = some (.int .i64 M.kA.id) ∧ wx.cell? ⟨ba, 1, none⟩ = some (.int .i64 M.kA.x) ∧ wx.cell? ⟨ba, 2, none⟩ = some (.int .i64 M.kA.y) ∧ wx.cell? ⟨ba, 3, none⟩ = some (.int .i64 M.kA.pw) ∧ wx.cell? ⟨ba, 4, none⟩ = some (.int .i64 M.kA.h) ∧ wx.cell? ⟨ba, 5, none⟩ = some (.slice A1 M.kA.pat.length c1) ∧ wx.cell? ⟨ba, 6, none⟩ = some (.int .i64 M.kA.band) ∧ wx.cell? ⟨ba, 7, none⟩ = some (.int .i64 M.kA.ch) := fun wx hbx => heldS1 (kw.a.below hbx)
  have hc : Below V.heap.size V V.drew := (Below.refl _ _).drew
  have h0 := hel _ hc
  have h1 := hel _ (Below.refl _ _)
  clear kw
  go_region_held3 (fun w' => w'.cell? ⟨ba, 0, none⟩ = some (.int .i64 M.kA.id) ∧ w'.cell? ⟨ba, 1, none⟩ = some (.int .i64 M.kA.x) ∧ w'.cell? ⟨ba, 2, none⟩ = some (.int .i64 M.kA.y) ∧ w'.cell? ⟨ba, 3, none⟩ = some (.int .i64 M.kA.pw) ∧ w'.cell? ⟨ba, 4, none⟩ = some (.int .i64 M.kA.h) ∧ w'.cell? ⟨ba, 5, none⟩ = some (.slice A1 M.kA.pat.length c1) ∧ w'.cell? ⟨ba, 6, none⟩ = some (.int .i64 M.kA.band) ∧ w'.cell? ⟨ba, 7, none⟩ = some (.int .i64 M.kA.ch)) (first | with_reducible exact h0 | with_reducible exact h1 | with_reducible exact hel _ hc | with_reducible exact hel _ ((alloc_below V (.cells (kS1 M.kA A1 c1) 40)).drew) | with_reducible exact hel _ ((alloc_below V (.cells kA0 30)).drew) | with_reducible exact hel _ (((alloc_below V (.cells (kS1 M.kA A1 c1) 40)).alloc (alloc_below V (.cells (kS1 M.kA A1 c1) 40)).size (.cells kA0 30)).drew) | with_reducible exact hel _ (((alloc_below V (.cells kA0 30)).alloc (alloc_below V (.cells kA0 30)).size (.cells (kS1 M.kA A1 c1) 40)).drew) | with_reducible exact hel _ (hc.trans ((alloc_below wa (.cells (kS1 M.kA A1 c1) 40)).mono hc.size)) | with_reducible exact hel _ (hc.trans ((alloc_below wa (.cells kA0 30)).mono hc.size)) | with_reducible exact hel _ (hc.trans (((alloc_below wa (.cells (kS1 M.kA A1 c1) 40)).alloc (alloc_below wa (.cells (kS1 M.kA A1 c1) 40)).size (.cells kA0 30)).mono hc.size)) | with_reducible exact hel _ (hc.trans (((alloc_below wa (.cells kA0 30)).alloc (alloc_below wa (.cells kA0 30)).size (.cells (kS1 M.kA A1 c1) 40)).mono hc.size)) | with_reducible exact hel _ (hc.trans ((alloc_below wb (.cells (kS1 M.kA A1 c1) 40)).mono hc.size)) | with_reducible exact hel _ (hc.trans ((alloc_below wb (.cells kA0 30)).mono hc.size)) | with_reducible exact hel _ (hc.trans (((alloc_below wb (.cells (kS1 M.kA A1 c1) 40)).alloc (alloc_below wb (.cells (kS1 M.kA A1 c1) 40)).size (.cells kA0 30)).mono hc.size)) | with_reducible exact hel _ (hc.trans (((alloc_below wb (.cells kA0 30)).alloc (alloc_below wb (.cells kA0 30)).size (.cells (kS1 M.kA A1 c1) 40)).mono hc.size)) | with_reducible exact hel _ (hc.alloc hc.size _) | with_reducible exact hel _ (below_set3 hc hbA))
    (first
      | (go_at_call 56; (first
        | ((with_reducible refine (row16_ok V.drew).mono ?_); rintro e wa ⟨GA, gc, PA, pc, rfl, hG, hPq, hba⟩; replace hc : Below V.heap.size V wa := ((Below.refl V.heap.size V).drew).trans (hba.mono ((Below.refl V.heap.size V).drew).size); have hcs := hc.size; clear hba)
        | ((with_reducible refine (row16_ok (World.alloc V (.cells (kS1 M.kA A1 c1) 40)).drew).mono ?_); rintro e wa ⟨GA, gc, PA, pc, rfl, hG, hPq, hba⟩; have bS : Box wa (V.heap.size) (kS1 M.kA A1 c1) 40 := Box.below (w := (World.alloc V (.cells (kS1 M.kA A1 c1) 40)).drew) (Box.new V _ _) hba; replace hc : Below V.heap.size V wa := ((alloc_below V (.cells (kS1 M.kA A1 c1) 40)).drew).trans (hba.mono ((alloc_below V (.cells (kS1 M.kA A1 c1) 40)).drew).size); have hcs := hc.size; clear hba)
        | ((with_reducible refine (row16_ok (World.alloc V (.cells kA0 30)).drew).mono ?_); rintro e wa ⟨GA, gc, PA, pc, rfl, hG, hPq, hba⟩; have bA : Box wa (V.heap.size) kA0 30 := Box.below (w := (World.alloc V (.cells kA0 30)).drew) (Box.new V _ _) hba; (obtain ⟨y0, y1, y2⟩ := bA.c3; have g0 := bA.frozen 0; have g1 := bA.frozen 1; have g2 := bA.frozen 2); have hbA : V.heap.size ≤ V.heap.size := Nat.le_refl _; replace hc : Below V.heap.size V wa := ((alloc_below V (.cells kA0 30)).drew).trans (hba.mono ((alloc_below V (.cells kA0 30)).drew).size); have hcs := hc.size; clear hba)
        | ((with_reducible refine (row16_ok (World.alloc (World.alloc V (.cells (kS1 M.kA A1 c1) 40)) (.cells kA0 30)).drew).mono ?_); rintro e wa ⟨GA, gc, PA, pc, rfl, hG, hPq, hba⟩; have bS : Box wa (V.heap.size) (kS1 M.kA A1 c1) 40 := Box.below (w := (World.alloc (World.alloc V (.cells (kS1 M.kA A1 c1) 40)) (.cells kA0 30)).drew) ((Box.new V _ _).alloc _) hba; have bA : Box wa (V.heap.size + 1) kA0 30 := Box.below (w := (World.alloc (World.alloc V (.cells (kS1 M.kA A1 c1) 40)) (.cells kA0 30)).drew) (box_new2 V _ _ _ _) hba; (obtain ⟨y0, y1, y2⟩ := bA.c3; have g0 := bA.frozen 0; have g1 := bA.frozen 1; have g2 := bA.frozen 2); have hbA : V.heap.size ≤ V.heap.size + 1 := Nat.le_succ _; replace hc : Below V.heap.size V wa := (((alloc_below V (.cells (kS1 M.kA A1 c1) 40)).alloc (alloc_below V (.cells (kS1 M.kA A1 c1) 40)).size (.cells kA0 30)).drew).trans (hba.mono (((alloc_below V (.cells (kS1 M.kA A1 c1) 40)).alloc (alloc_below V (.cells (kS1 M.kA A1 c1) 40)).size (.cells kA0 30)).drew).size); have hcs := hc.size; clear hba)
        | ((with_reducible refine (row16_ok (World.alloc (World.alloc V (.cells kA0 30)) (.cells (kS1 M.kA A1 c1) 40)).drew).mono ?_); rintro e wa ⟨GA, gc, PA, pc, rfl, hG, hPq, hba⟩; have bA : Box wa (V.heap.size) kA0 30 := Box.below (w := (World.alloc (World.alloc V (.cells kA0 30)) (.cells (kS1 M.kA A1 c1) 40)).drew) ((Box.new V _ _).alloc _) hba; (obtain ⟨y0, y1, y2⟩ := bA.c3; have g0 := bA.frozen 0; have g1 := bA.frozen 1; have g2 := bA.frozen 2); have hbA : V.heap.size ≤ V.heap.size := Nat.le_refl _; have bS : Box wa (V.heap.size + 1) (kS1 M.kA A1 c1) 40 := Box.below (w := (World.alloc (World.alloc V (.cells kA0 30)) (.cells (kS1 M.kA A1 c1) 40)).drew) (box_new2 V _ _ _ _) hba; replace hc : Below V.heap.size V wa := (((alloc_below V (.cells kA0 30)).alloc (alloc_below V (.cells kA0 30)).size (.cells (kS1 M.kA A1 c1) 40)).drew).trans (hba.mono (((alloc_below V (.cells kA0 30)).alloc (alloc_below V (.cells kA0 30)).size (.cells (kS1 M.kA A1 c1) 40)).drew).size); have hcs := hc.size; clear hba)))
      | (go_at_call 24; (first
        | ((with_reducible refine (kB.out wa GA gc PA pc _ 1 (hc.trans ((Below.refl wa.heap.size wa).mono hc.size)) hG hPq (Sl.of_box (size := 8) (cell := secell) (xs := [⟨M.kA, A1, c1⟩]) bS rfl)).mono ?_); rintro e wb ⟨XA, xc, YA, yc, ZA, zc, rfl, hR, hcp, hbb, fX, fY, fZ⟩; (try (have hFl := bA.lt; clear y0 y1 y2 g0 g1 g2; replace bA := bA.below hbb; (obtain ⟨y0, y1, y2⟩ := bA.c3; have g0 := bA.frozen 0; have g1 := bA.frozen 1; have g2 := bA.frozen 2))); replace hc := (hc.trans ((Below.refl wa.heap.size wa).mono hc.size)).trans (hbb.mono (hc.trans ((Below.refl wa.heap.size wa).mono hc.size)).size); clear hbb)
        | ((with_reducible refine (kB.out (World.alloc wa (.cells kA0 30)) GA gc PA pc _ 1 (hc.trans ((alloc_below wa (.cells kA0 30)).mono hc.size)) ((hG.below (alloc_below wa (.cells kA0 30))).more (alloc_below wa (.cells kA0 30)).size) ((hPq.below (alloc_below wa (.cells kA0 30))).more (alloc_below wa (.cells kA0 30)).size) (Sl.of_box (size := 8) (cell := secell) (xs := [⟨M.kA, A1, c1⟩]) (bS.alloc _) rfl)).mono ?_); rintro e wb ⟨XA, xc, YA, yc, ZA, zc, rfl, hR, hcp, hbb, fX, fY, fZ⟩; have bA : Box wb (wa.heap.size) kA0 30 := Box.below (w := (World.alloc wa (.cells kA0 30))) (Box.new wa _ _) hbb; have hFl : wa.heap.size < (World.alloc wa (.cells kA0 30)).heap.size := Box.lt (w := (World.alloc wa (.cells kA0 30))) (Box.new wa _ _); (obtain ⟨y0, y1, y2⟩ := bA.c3; have g0 := bA.frozen 0; have g1 := bA.frozen 1; have g2 := bA.frozen 2); have hbA : V.heap.size ≤ wa.heap.size := hcs; replace hc := (hc.trans ((alloc_below wa (.cells kA0 30)).mono hc.size)).trans (hbb.mono (hc.trans ((alloc_below wa (.cells kA0 30)).mono hc.size)).size); clear hbb)
        | ((with_reducible refine (kB.out (World.alloc wa (.cells (kS1 M.kA A1 c1) 40)) GA gc PA pc _ 1 (hc.trans ((alloc_below wa (.cells (kS1 M.kA A1 c1) 40)).mono hc.size)) ((hG.below (alloc_below wa (.cells (kS1 M.kA A1 c1) 40))).more (alloc_below wa (.cells (kS1 M.kA A1 c1) 40)).size) ((hPq.below (alloc_below wa (.cells (kS1 M.kA A1 c1) 40))).more (alloc_below wa (.cells (kS1 M.kA A1 c1) 40)).size) (Sl.of_box (size := 8) (cell := secell) (xs := [⟨M.kA, A1, c1⟩]) (Box.new wa _ _) rfl)).mono ?_); rintro e wb ⟨XA, xc, YA, yc, ZA, zc, rfl, hR, hcp, hbb, fX, fY, fZ⟩; (try (have hFl := Box.lt (w := (World.alloc wa (.cells (kS1 M.kA A1 c1) 40))) (bA.alloc _); clear y0 y1 y2 g0 g1 g2; replace bA := (bA.alloc _).below hbb; (obtain ⟨y0, y1, y2⟩ := bA.c3; have g0 := bA.frozen 0; have g1 := bA.frozen 1; have g2 := bA.frozen 2))); replace hc := (hc.trans ((alloc_below wa (.cells (kS1 M.kA A1 c1) 40)).mono hc.size)).trans (hbb.mono (hc.trans ((alloc_below wa (.cells (kS1 M.kA A1 c1) 40)).mono hc.size)).size); clear hbb)
        | ((with_reducible refine (kB.out (World.alloc (World.alloc wa (.cells (kS1 M.kA A1 c1) 40)) (.cells kA0 30)) GA gc PA pc _ 1 (hc.trans (((alloc_below wa (.cells (kS1 M.kA A1 c1) 40)).alloc (alloc_below wa (.cells (kS1 M.kA A1 c1) 40)).size (.cells kA0 30)).mono hc.size)) ((hG.below ((alloc_below wa (.cells (kS1 M.kA A1 c1) 40)).alloc (alloc_below wa (.cells (kS1 M.kA A1 c1) 40)).size (.cells kA0 30))).more ((alloc_below wa (.cells (kS1 M.kA A1 c1) 40)).alloc (alloc_below wa (.cells (kS1 M.kA A1 c1) 40)).size (.cells kA0 30)).size) ((hPq.below ((alloc_below wa (.cells (kS1 M.kA A1 c1) 40)).alloc (alloc_below wa (.cells (kS1 M.kA A1 c1) 40)).size (.cells kA0 30))).more ((alloc_below wa (.cells (kS1 M.kA A1 c1) 40)).alloc (alloc_below wa (.cells (kS1 M.kA A1 c1) 40)).size (.cells kA0 30)).size) (Sl.of_box (size := 8) (cell := secell) (xs := [⟨M.kA, A1, c1⟩]) ((Box.new wa _ _).alloc _) rfl)).mono ?_); rintro e wb ⟨XA, xc, YA, yc, ZA, zc, rfl, hR, hcp, hbb, fX, fY, fZ⟩; have bS : Box wb (wa.heap.size) (kS1 M.kA A1 c1) 40 := Box.below (w := (World.alloc (World.alloc wa (.cells (kS1 M.kA A1 c1) 40)) (.cells kA0 30))) ((Box.new wa _ _).alloc _) hbb; have bA : Box wb (wa.heap.size + 1) kA0 30 := Box.below (w := (World.alloc (World.alloc wa (.cells (kS1 M.kA A1 c1) 40)) (.cells kA0 30))) (box_new2 wa _ _ _ _) hbb; have hFl : wa.heap.size + 1 < (World.alloc (World.alloc wa (.cells (kS1 M.kA A1 c1) 40)) (.cells kA0 30)).heap.size := Box.lt (w := (World.alloc (World.alloc wa (.cells (kS1 M.kA A1 c1) 40)) (.cells kA0 30))) (box_new2 wa _ _ _ _); (obtain ⟨y0, y1, y2⟩ := bA.c3; have g0 := bA.frozen 0; have g1 := bA.frozen 1; have g2 := bA.frozen 2); have hbA : V.heap.size ≤ wa.heap.size + 1 := Nat.le_succ_of_le hcs; replace hc := (hc.trans (((alloc_below wa (.cells (kS1 M.kA A1 c1) 40)).alloc (alloc_below wa (.cells (kS1 M.kA A1 c1) 40)).size (.cells kA0 30)).mono hc.size)).trans (hbb.mono (hc.trans (((alloc_below wa (.cells (kS1 M.kA A1 c1) 40)).alloc (alloc_below wa (.cells (kS1 M.kA A1 c1) 40)).size (.cells kA0 30)).mono hc.size)).size); clear hbb)
        | ((with_reducible refine (kB.out (World.alloc (World.alloc wa (.cells kA0 30)) (.cells (kS1 M.kA A1 c1) 40)) GA gc PA pc _ 1 (hc.trans (((alloc_below wa (.cells kA0 30)).alloc (alloc_below wa (.cells kA0 30)).size (.cells (kS1 M.kA A1 c1) 40)).mono hc.size)) ((hG.below ((alloc_below wa (.cells kA0 30)).alloc (alloc_below wa (.cells kA0 30)).size (.cells (kS1 M.kA A1 c1) 40))).more ((alloc_below wa (.cells kA0 30)).alloc (alloc_below wa (.cells kA0 30)).size (.cells (kS1 M.kA A1 c1) 40)).size) ((hPq.below ((alloc_below wa (.cells kA0 30)).alloc (alloc_below wa (.cells kA0 30)).size (.cells (kS1 M.kA A1 c1) 40))).more ((alloc_below wa (.cells kA0 30)).alloc (alloc_below wa (.cells kA0 30)).size (.cells (kS1 M.kA A1 c1) 40)).size) (Sl.of_box (size := 8) (cell := secell) (xs := [⟨M.kA, A1, c1⟩]) (box_new2 wa _ _ _ _) rfl)).mono ?_); rintro e wb ⟨XA, xc, YA, yc, ZA, zc, rfl, hR, hcp, hbb, fX, fY, fZ⟩; have bA : Box wb (wa.heap.size) kA0 30 := Box.below (w := (World.alloc (World.alloc wa (.cells kA0 30)) (.cells (kS1 M.kA A1 c1) 40))) ((Box.new wa _ _).alloc _) hbb; have hFl : wa.heap.size < (World.alloc (World.alloc wa (.cells kA0 30)) (.cells (kS1 M.kA A1 c1) 40)).heap.size := Box.lt (w := (World.alloc (World.alloc wa (.cells kA0 30)) (.cells (kS1 M.kA A1 c1) 40))) ((Box.new wa _ _).alloc _); (obtain ⟨y0, y1, y2⟩ := bA.c3; have g0 := bA.frozen 0; have g1 := bA.frozen 1; have g2 := bA.frozen 2); have hbA : V.heap.size ≤ wa.heap.size := hcs; have bS : Box wb (wa.heap.size + 1) (kS1 M.kA A1 c1) 40 := Box.below (w := (World.alloc (World.alloc wa (.cells kA0 30)) (.cells (kS1 M.kA A1 c1) 40))) (box_new2 wa _ _ _ _) hbb; replace hc := (hc.trans (((alloc_below wa (.cells kA0 30)).alloc (alloc_below wa (.cells kA0 30)).size (.cells (kS1 M.kA A1 c1) 40)).mono hc.size)).trans (hbb.mono (hc.trans (((alloc_below wa (.cells kA0 30)).alloc (alloc_below wa (.cells kA0 30)).size (.cells (kS1 M.kA A1 c1) 40)).mono hc.size)).size); clear hbb))))
  all_goals
    first
    | exact hQ _ _ _ _ _ _ _ _ _ XA YA ZA xc yc zc ⟨bA.set3, rw_set3 hR (fun ad h => Nat.lt_of_lt_of_le hFl (fX ad h)) (fun ad h => Nat.lt_of_lt_of_le hFl (fY ad h)) (fun ad h => Nat.lt_of_lt_of_le hFl (fZ ad h)), hcp⟩ (below_set3 hc hbA)
    | exact hQ _ _ _ _ _ _ _ _ _ XA YA ZA xc yc zc ⟨Box.new _ _ _, rw_alloc hR _, hcp⟩ (hc.alloc hc.size _)
end Go.Proofs.YtciolgmljpamlaaGreatDoor
end

section
namespace Go.Proofs.YtciolgmljpamlaaGreatDoor
open Go Go.RowKit
set_option maxRecDepth 100000
set_option maxHeartbeats 64000000 in
theorem known16_any (w : World) (ht : Tab w) : Calls Tryz.prog 16 #[] w fun e w' => e = .returned (.bool true) ∧ Below w.heap.size w w' := by
 go_enter Tryz.func16, Tryz.ntmps16
 go_wp2_with fail
 have k0 : Calls Tryz.prog 54 #[.int .i64 1, .int .i64 2, .int .i64 101] w fun e w' => ∃ A c, e = .returned (stv M.kA A c) ∧ Sl 1 icell w' w'.heap.size A M.kA.pat ∧ Below w.heap.size w w' := at16_ok 1 2 101 w
 refine k0.mono ?_
 rintro e w1 ⟨A1, c1, rfl, S1, hb1⟩
 clear k0
 go_wp2_with fail
 have k1 : Calls Tryz.prog 54 #[.int .i64 2, .int .i64 8, .int .i64 101] w1 fun e w' => ∃ A c, e = .returned (stv M.kB A c) ∧ Sl 1 icell w' w'.heap.size A M.kB.pat ∧ Below w1.heap.size w1 w' := at16_ok 2 8 101 w1
 refine k1.mono ?_
 rintro e w2 ⟨A2, c2, rfl, S2, hb2⟩
 clear k1
 go_wp2_with fail
 have k2 : Calls Tryz.prog 54 #[.int .i64 3, .int .i64 8, .int .i64 82] w2 fun e w' => ∃ A c, e = .returned (stv M.kC A c) ∧ Sl 1 icell w' w'.heap.size A M.kC.pat ∧ Below w2.heap.size w2 w' := at16_ok 3 8 82 w2
 refine k2.mono ?_
 rintro e w3 ⟨A3, c3, rfl, S3, hb3⟩
 clear k2
 have B3 := after_ (after_ hb1 hb2) hb3
 obtain ⟨V, HV, xa, xb, xc0, hbV, -⟩ := boxes3 w3 (stc M.kA A1 c1) 40 (stc M.kB A2 c2) 40 (stc M.kC A3 c3) 40
 have BV := after_ B3 hbV
 have kw : K16 w V w3.heap.size (w3.heap.size + 1) (w3.heap.size + 1 + 1) A1 A2 A3 c1 c2 c3 := ⟨xa, xb, xc0, (((((S1.below hb2).more hb2.size).below hb3).more hb3.size).below hbV).more hbV.size, (((S2.below hb3).more hb3.size).below hbV).more hbV.size, (S3.below hbV).more hbV.size, ht.kept BV, BV⟩
 clear S1 S2 S3 xa xb xc0 hb1 hb2 hb3 hbV B3 BV
 have h3 := HV.out
 obtain ⟨x0, x1, x2, x3, x4, x5, x6, x7⟩ := kw.a.c8
 obtain ⟨y0, y1, y2, y3, y4, y5, y6, y7⟩ := kw.b.c8
 go_wp2_with fail
 clear h3
 clear x0 x1 x2 x3 x4 x5 x6 x7 y0 y1 y2 y3 y4 y5 y6 y7
 refine (forbids16_ok M.kA M.kB A1 A2 c1 c2 0 true V kw.tab kw.s1 kw.s2 (by decide) (by decide) M.k16a).mono ?_
 rintro e w4 ⟨rfl, hbx⟩
 replace kw := kw.next hbx
 clear hbx
 obtain ⟨x0, x1, x2, x3, x4, x5, x6, x7⟩ := kw.a.c8
 obtain ⟨y0, y1, y2, y3, y4, y5, y6, y7⟩ := kw.b.c8
 go_wp2_with fail
 clear x0 x1 x2 x3 x4 x5 x6 x7 y0 y1 y2 y3 y4 y5 y6 y7
 refine (forbids16_ok M.kA M.kB A1 A2 c1 c2 1 false w4 kw.tab kw.s1 kw.s2 (by decide) (by decide) M.k16b).mono ?_
 rintro e w5 ⟨rfl, hbx⟩
 replace kw := kw.next hbx
 clear hbx
 obtain ⟨x0, x1, x2, x3, x4, x5, x6, x7⟩ := kw.a.c8
 obtain ⟨y0, y1, y2, y3, y4, y5, y6, y7⟩ := kw.c.c8
 go_wp2_with fail
 clear x0 x1 x2 x3 x4 x5 x6 x7 y0 y1 y2 y3 y4 y5 y6 y7
 refine (forbids16_ok M.kA M.kC A1 A3 c1 c3 0 false w5 kw.tab kw.s1 kw.s3 (by decide) (by decide) M.k16c).mono ?_
 rintro e w6 ⟨rfl, hbx⟩
 replace kw := kw.next hbx
 clear hbx
 obtain ⟨w7, HP, po, hbx, -⟩ := boxes1 w6 #[.int .i64 1, .int .i64 2, .int .i64 0, .int .i64 14, .int .i64 51] 66
 replace kw := kw.next hbx
 have hP := HP.out
 go_wp2_with fail
 clear hbx hP
 go_upto_region 5 with fail
 refine kn16_reg5 w w7 _ _ _ A1 A2 A3 c1 c2 c3 kw (by kernel_rfl) ?_
 rintro z36 z37 z38 z39 z40 z41 z42 z43 wo1 b1 XA1 YA1 ZA1 xc1 yc1 zc1 rx1 hcx
 replace kw := kw.next hcx
 replace po := po.below hcx
 clear hcx
 go_upto_region 6 with fail
 refine kn16_reg6 w wo1 _ _ _ A1 A2 A3 c1 c2 c3 kw (by kernel_rfl) ?_
 rintro z44 z45 z46 z47 z48 z49 z50 z51 wo2 b2 XA2 YA2 ZA2 xc2 yc2 zc2 rx2 hcx
 replace kw := kw.next hcx
 replace po := po.below hcx
 replace rx1 := rx1.next hcx
 clear hcx
 go_upto_region 7 with fail
 refine kn16_reg7 w wo2 _ _ _ A1 A2 A3 c1 c2 c3 kw (by kernel_rfl) ?_
 rintro z52 z53 z54 z55 z56 z57 z58 z59 wo3 b3 XA3 YA3 ZA3 xc3 yc3 zc3 rx3 hcx
 replace kw := kw.next hcx
 replace po := po.below hcx
 replace rx1 := rx1.next hcx
 replace rx2 := rx2.next hcx
 clear hcx
 go_upto_region 8 with fail
 refine kn16_reg8 w wo3 _ _ _ A1 A2 A3 c1 c2 c3 kw (by kernel_rfl) ?_
 rintro z60 z61 z62 z63 z64 z65 z66 wo4 b4 XA4 YA4 ZA4 xc4 yc4 zc4 rx4 hcx
 replace kw := kw.next hcx
 replace po := po.below hcx
 replace rx1 := rx1.next hcx
 replace rx2 := rx2.next hcx
 replace rx3 := rx3.next hcx
 clear hcx
 clear rx3 rx4
 obtain ⟨y0, y1, y2⟩ := rx1.box.c3
 obtain ⟨z0, z1, z2, z3, z4⟩ : _ ∧ _ ∧ _ ∧ _ ∧ _ := ⟨po.cell 0 rfl, po.cell 1 rfl, po.cell 2 rfl, po.cell 3 rfl, po.cell 4 rfl⟩
 obtain ⟨u1, Hu1, q0, hbx, -⟩ := boxes1 wo4 #[.int .i64 1, .int .i64 2, .int .i64 0, .int .i64 14, .int .i64 51] 66
 replace kw := kw.next hbx
 replace po := po.below hbx
 replace rx1 := rx1.next hbx
 replace rx2 := rx2.next hbx
 have sq : Sl 5 p5cell u1 u1.heap.size (some ⟨wo4.heap.size, 0, none⟩) [M.one] := Sl.of_box q0 rfl
 have kS := same16_any XA1 YA1 ZA1 (some ⟨wo4.heap.size, 0, none⟩) none none xc1 yc1 zc1 1 0 0 [M.one] [] [] [M.one] [] [] u1 rx1.r ⟨sq, Sl.nil_, Sl.nil_⟩ (by decide)
 rw [decide_eq_true (p := [M.one] = [M.one] ∧ ([] : List P5) = [] ∧ ([] : List P4) = []) ⟨rfl, rfl, rfl⟩] at kS
 have hu := Hu1.out
 go_wp2_with fail
 clear hu y0 y1 y2 z0 z1 z2 z3 z4
 refine kS.mono ?_
 rintro e v1 ⟨rfl, hbx⟩
 clear kS q0 sq
 replace kw := kw.next hbx
 replace po := po.below hbx
 replace rx1 := rx1.next hbx
 replace rx2 := rx2.next hbx
 clear hbx
 obtain ⟨y0, y1, y2⟩ := rx2.box.c3
 obtain ⟨u2, Hu2, q0, q1, hbx, -⟩ := boxes2 v1 #[.int .i64 1, .int .i64 3, .int .i64 5, .int .i64 14, .int .i64 51] 68 #[.int .i64 1, .int .i64 10, .int .i64 14, .int .i64 51] 71
 replace kw := kw.next hbx
 replace po := po.below hbx
 replace rx1 := rx1.next hbx
 replace rx2 := rx2.next hbx
 have sl : Sl 5 p5cell u2 u2.heap.size (some ⟨v1.heap.size, 0, none⟩) [M.lone] := Sl.of_box q0 rfl
 have sc : Sl 4 p4cell u2 u2.heap.size (some ⟨v1.heap.size + 1, 0, none⟩) [M.cone] := Sl.of_box q1 rfl
 have kS := same16_any XA2 YA2 ZA2 none (some ⟨v1.heap.size, 0, none⟩) (some ⟨v1.heap.size + 1, 0, none⟩) xc2 yc2 zc2 0 1 1 [] [M.lone] [M.cone] [] [M.lone] [M.cone] u2 rx2.r ⟨Sl.nil_, sl, sc⟩ (by decide)
 rw [decide_eq_true (p := ([] : List P5) = [] ∧ [M.lone] = [M.lone] ∧ [M.cone] = [M.cone]) ⟨rfl, rfl, rfl⟩] at kS
 have hu := Hu2.out
 go_wp2_with fail
 clear hu y0 y1 y2
 refine kS.mono ?_
 rintro e v2 ⟨rfl, hbx⟩
 clear kS q0 q1 sl sc
 replace kw := kw.next hbx
 replace po := po.below hbx
 replace rx1 := rx1.next hbx
 replace rx2 := rx2.next hbx
 clear hbx rx2
 obtain ⟨z0, z1, z2, z3, z4⟩ : _ ∧ _ ∧ _ ∧ _ ∧ _ := ⟨po.cell 0 rfl, po.cell 1 rfl, po.cell 2 rfl, po.cell 3 rfl, po.cell 4 rfl⟩
 obtain ⟨u3, Hu3, q0, hbx, -⟩ := boxes1 v2 #[.int .i64 1, .int .i64 2, .int .i64 0, .int .i64 2, .int .i64 6, .int .i64 1, .int .i64 2, .int .i64 0, .int .i64 14, .int .i64 51] 66
 replace kw := kw.next hbx
 replace po := po.below hbx
 replace rx1 := rx1.next hbx
 have st : Sl 5 p5cell u3 u3.heap.size (some ⟨v2.heap.size, 0, none⟩) [M.two, M.one] := Sl.of_box q0 rfl
 have kJ := join_any XA1 YA1 ZA1 (some ⟨v2.heap.size, 0, none⟩) none none xc1 yc1 zc1 2 0 0 [M.one] [] [] [M.two, M.one] [] [] u3 rx1.r ⟨st, Sl.nil_, Sl.nil_⟩ rx1.cap (by decide) (by decide) (by decide)
 rw [M.k16j] at kJ
 obtain ⟨y0, y1, y2⟩ := rx1.box.c3
 have hu := Hu3.out
 go_wp2_with fail
 clear hu y0 y1 y2 z0 z1 z2 z3 z4
 refine kJ.mono ?_
 rintro e v3 ⟨JA, jc, KA, kc, LA, lc, rfl, jr, jcap, hbx, -⟩
 clear kJ
 replace kw := kw.next hbx
 replace po := po.below hbx
 replace rx1 := rx1.next hbx
 replace st := (st.below hbx).more hbx.size
 clear hbx
 obtain ⟨u4, Hu4, jb, hbx, -⟩ := boxes1 v3 #[.slice JA 2 jc, .slice KA 0 kc, .slice LA 0 lc] 30
 replace kw := kw.next hbx
 replace po := po.below hbx
 replace rx1 := rx1.next hbx
 replace jr := jr.next hbx
 replace st := (st.below hbx).more hbx.size
 clear hbx
 have kN := neighbours_ok JA KA LA jc kc lc [M.two, M.one] [] [] 2 u4 jr (by decide) M.k16v (by decide)
 rw [M.k16n] at kN
 obtain ⟨y0, y1, y2⟩ := jb.c3
 have hu := Hu4.out
 go_wp2_with fail
 clear hu y0 y1 y2
 refine kN.mono ?_
 rintro e v4 ⟨NA, nc, rfl, SN, hbx⟩
 clear kN
 replace kw := kw.next hbx
 replace po := po.below hbx
 replace rx1 := rx1.next hbx
 replace jr := jr.next hbx
 replace jb := jb.below hbx
 replace st := (st.below hbx).more hbx.size
 clear hbx
 have kS := same16_any JA KA LA (some ⟨v2.heap.size, 0, none⟩) none none jc kc lc 2 0 0 [M.two, M.one] [] [] [M.two, M.one] [] [] v4 jr ⟨st, Sl.nil_, Sl.nil_⟩ (by decide)
 rw [decide_eq_true (p := [M.two, M.one] = [M.two, M.one] ∧ ([] : List P5) = [] ∧ ([] : List P4) = []) ⟨rfl, rfl, rfl⟩] at kS
 obtain ⟨y0, y1, y2⟩ := jb.c3
 go_wp2_with fail
 clear y0 y1 y2
 refine kS.mono ?_
 rintro e v5 ⟨rfl, hbx⟩
 clear kS
 obtain ⟨an, rfl, hnb, cn⟩ := (SN.below hbx).int_at (k := 0) (by decide)
 replace cn : v5.cell? an = some (.int .i64 1) := by simpa [Addr.add_zero'] using cn
 replace kw := kw.next hbx
 replace po := po.below hbx
 replace rx1 := rx1.next hbx
 go_wp2_with fail
 go_ret
 exact ⟨rfl, kw.below⟩
end Go.Proofs.YtciolgmljpamlaaGreatDoor
end

section
namespace Go.Proofs.YtciolgmljpamlaaGreatDoor
open Go Go.RowKit
set_option maxRecDepth 100000
structure LW6 (w0 w : World) : Prop where
 tab : Tab w
 below : Below w0.heap.size w0 w
theorem LW6.next {w0 w w' : World} (h : LW6 w0 w) (hb : Below w.heap.size w w') : LW6 w0 w' := ⟨h.tab.kept hb, after_ h.below hb⟩
theorem LW6.known {w0 w : World} (h : LW6 w0 w) : Calls Tryz.prog 16 #[] w fun e w' => e = .returned (.bool true) ∧ Below w0.heap.size w0 w' :=
 (known16_any w h.tab).mono fun _ _ ⟨he, hb⟩ => ⟨he, after_ h.below hb⟩
structure R6 (w : World) (b : Nat) (XA YA ZA : Option Addr) (xc yc zc : Nat) (ps ls : List P5) (cs : List P4) : Prop where
 box : Box w b #[.slice XA ps.length xc, .slice YA ls.length yc, .slice ZA cs.length zc] 30
 r : RW w XA YA ZA ps ls cs
 cap : ps.length ≤ xc ∧ ls.length ≤ yc ∧ cs.length ≤ zc
theorem R6.next {w w' : World} {b : Nat} {XA YA ZA : Option Addr} {xc yc zc : Nat} {ps ls : List P5} {cs : List P4} (h : R6 w b XA YA ZA xc yc zc ps ls cs) (hb : Below w.heap.size w w') : R6 w' b XA YA ZA xc yc zc ps ls cs := ⟨h.box.below hb, h.r.next hb, h.cap⟩
end Go.Proofs.YtciolgmljpamlaaGreatDoor
end

section
namespace Go.Proofs.YtciolgmljpamlaaGreatDoor
open Go Go.RowKit
set_option maxRecDepth 100000
theorem RC.addP {w w1 : World} {base br : Nat} {ps ls qs : List P5} {cs : List P4} {vP vL vC v : Value} {n : Nat} (h : RC w base br ps ls cs vP vL vC) (hbr : br < base) (ho : w1.ownsRow base 66 5 v n (flat 5 p5cell (ps ++ qs))) (hn : n = (ps ++ qs).length) (hg : w.grownBy w1 vP.ownBlock) : RC (w1.setCell ⟨br, 0, none⟩ v) base br (ps ++ qs) ls cs v vL vC := by
 subst hn
 exact ⟨(h.box.grown hg (h.box.ne_own (by decide) h.p)).set 0 _, ownsRow_setCell_below ho (by dsimp only; exact hbr) _, ownsRow_setCell_below (h.l.kept hg (own_ne h.l h.p (by decide))) (by dsimp only; exact hbr) _, ownsRow_setCell_below (h.c.kept hg (own_ne h.c h.p (by decide))) (by dsimp only; exact hbr) _⟩
theorem RC.addL {w w1 : World} {base br : Nat} {ps ls qs : List P5} {cs : List P4} {vP vL vC v : Value} {n : Nat} (h : RC w base br ps ls cs vP vL vC) (hbr : br < base) (ho : w1.ownsRow base 68 5 v n (flat 5 p5cell (ls ++ qs))) (hn : n = (ls ++ qs).length) (hg : w.grownBy w1 vL.ownBlock) : RC (w1.setCell ⟨br, 1, none⟩ v) base br ps (ls ++ qs) cs vP v vC := by
 subst hn
 exact ⟨(h.box.grown hg (h.box.ne_own (by decide) h.l)).set 1 _, ownsRow_setCell_below (h.p.kept hg (own_ne h.p h.l (by decide))) (by dsimp only; exact hbr) _, ownsRow_setCell_below ho (by dsimp only; exact hbr) _, ownsRow_setCell_below (h.c.kept hg (own_ne h.c h.l (by decide))) (by dsimp only; exact hbr) _⟩
end Go.Proofs.YtciolgmljpamlaaGreatDoor
end

section
namespace Go.Proofs.YtciolgmljpamlaaGreatDoor
open Go Go.RowKit
set_option maxRecDepth 100000
set_option maxHeartbeats 16000000 in
theorem in16_ok (LA : Option Addr) (lc : Nat) (es : List SE) (b : Int) (w : World) (hL : Sl 8 secell w w.heap.size LA es) (hl : es.length ≤ 100000) (hb : 1 ≤ b ∧ b ≤ 3) :
    Calls Tryz.prog 79 #[.slice LA es.length lc, .int .i64 b] w fun e w' => ∃ A c, e = .returned (.slice A (es.map (SE.inB b)).length c) ∧ Sl 8 secell w' w'.heap.size A (es.map (SE.inB b)) ∧ Below w.heap.size w w' ∧ (∀ ad, A = some ad → w.heap.size ≤ ad.block) := by
  obtain ⟨i8, hi8, hz08, hz18, hz28⟩ := info_parts seInfo
  have Hi8 := Lib.hid hi8; have Hz08 := Lib.hid hz08; have Hz18 := Lib.hid hz18; have Hz28 := Lib.hid hz28
  clear hi8 hz08 hz18 hz28
  go_enter Tryz.func79, Tryz.ntmps79
  go_wp2_with fail
  go_loopw [5, 6, 7] (fun out i _ wr => ∃ (k : Nat) (os : List SE) (vO : Value), vO = out ∧ k ≤ es.length ∧ i = .int .i64 k ∧ Below w.heap.size w wr ∧ os.length = k ∧ wr.ownsRow w.heap.size 40 8 vO k (flat 8 secell os) ∧ Hid (os = (es.take k).map (SE.inB b))) (fun _ i _ _ => es.length - (intOf i).toNat)
  case atStart => exact ⟨0, [], _, rfl, Nat.zero_le _, rfl, Below.refl _ _, rfl, own_nil _ _ _ _ _, Lib.hid (by simp)⟩
  case round =>
    obtain ⟨k, os, vO, rfl, hk, rfl, hBr, hol, hown, HO⟩ := hrel
    by_cases hlt : k < es.length
    · obtain ⟨la, rfl, hlb, a0, a1, a2, a3, a4, a5, a6, a7⟩ := (hL.below hBr).st8 hlt
      have HO2 : Hid (os ++ [SE.inB b es[k]] = (es.take (k + 1)).map (SE.inB b)) := Lib.hid (by rw [HO.out, List.take_succ_eq_append_getElem hlt, List.map_append]; rfl)
      have x0 : (0 : Int) ≤ (k : Int) := by omega
      have x1 : (k : Int) < (es.length : Int) := by omega
      obtain ⟨U, HU, u0, hBU, -⟩ := boxes1 wr (stc es[k].s es[k].A es[k].c) 40
      have BU := after_ hBr hBU
      have oU := own_below hown hBU
      have olt : ∀ g, vO.ownBlock = some g → g < wr.heap.size := fun g h => (hown.lt g h).2
      have kL := low16_ok b U hb
      have hU := HU.out
      go_wp2_with fail
      clear hU a0 a1 a2 a3 a4 a5 a6 a7
      refine kL.mono ?_
      rintro e w2 ⟨rfl, hb2⟩
      have B2 := after_ BU hb2
      have o2 := own_below oU hb2
      have u2 := u0.below hb2
      obtain ⟨-, -, -, -, -, -, b6, b7⟩ := u2.c8
      have f6 := u2.frozen 6
      have f7 := u2.frozen 7
      have hne : some wr.heap.size ≠ vO.ownBlock := fun e => by have := olt _ e.symm; omega
      have o3 := own_setFar (i := 7) (own_setFar (i := 6) o2 hne (.int .i64 b)) hne (.int .i64 (M.chLo b))
      have B3 := (B2.setCell (p := ⟨wr.heap.size, 6, none⟩) hBr.size (.int .i64 b)).setCell (p := ⟨wr.heap.size, 7, none⟩) hBr.size (.int .i64 (M.chLo b))
      have u3 : Box _ wr.heap.size #[.int .i64 es[k].s.id, .int .i64 es[k].s.x, .int .i64 es[k].s.y, .int .i64 es[k].s.pw, .int .i64 es[k].s.h, .slice es[k].A es[k].s.pat.length es[k].c, .int .i64 b, .int .i64 (M.chLo b)] 40 := (u2.set 6 (.int .i64 b)).set 7 (.int .i64 (M.chLo b))
      obtain ⟨X3, HX3⟩ : ∃ X, Hid ((w2.setCell ⟨wr.heap.size, 6, none⟩ (.int .i64 b)).setCell ⟨wr.heap.size, 7, none⟩ (.int .i64 (M.chLo b)) = X) := ⟨_, Lib.hid rfl⟩
      rw [HX3.out] at o3 B3 u3
      have hs3 : w.heap.size ≤ X3.heap.size := B3.size
      obtain ⟨e0, e1, e2, e3, e4, e5, e6, e7⟩ := u3.c8
      have hX3 := HX3.out
      clear hown oU o2 u0 u2 u3 kL
      go_wp2_with (at_builtin; refine wpList_push (w0 := w) (cell := secell) (y := SE.inB b es[k]) rfl _ _ _ rfl w.heap.size w.heap.size 40 i8 _ 80 Tryz.underlying25 Hi8.out Hz08.out Hz18.out Hz28.out rfl (by decide) vO k os rfl o3 _ _ rfl _ rfl (se_one _) (by unfold maxLen; omega) (by omega) hs3 (Nat.le_refl _) B3 ?_; intro v9 w9 hown9 hb9 hg9)
      go_roundw
      case rel => exact ⟨k + 1, _, v9, rfl, hlt, by go_num, hb9, by rw [List.length_append, hol]; rfl, hown9, HO2⟩
      case measure => simp [intOf]; omega
    · obtain rfl : k = es.length := by omega
      have HE : Hid (os = es.map (SE.inB b)) := Lib.hid (by have := HO.out; rwa [List.take_of_length_le (Nat.le_refl _)] at this)
      go_wp2_with fail
      go_ret
      rw [← HE.out]
      rw [← hol] at hown
      obtain ⟨A9, c9, rfl, S9⟩ := own_slice (by decide) hown
      exact ⟨A9, c9, rfl, S9, hBr, own_farV hown (Nat.le_refl _)⟩
end Go.Proofs.YtciolgmljpamlaaGreatDoor
end
