/- A bundle of texts: Co10, Kn16, Co12, Kn16M. -/
import Derived.Test.YtciolgmljpamlaaGreatDoorC30
import Derived.Test.YtciolgmljpamlaaGreatDoorC31
import Derived.Test.YtciolgmljpamlaaGreatDoorC27
import Derived.Test.YtciolgmljpamlaaGreatDoorC34
import Derived.Test.YtciolgmljpamlaaGreatDoorC01
import Derived.Test.YtciolgmljpamlaaGreatDoorC26
section
namespace Go.Proofs.YtciolgmljpamlaaGreatDoor
open Go Go.RowKit
set_option maxRecDepth 100000
theorem M.chBd {b : Int} (hb : 1 ≤ b ∧ b ≤ 3) : (0 ≤ M.chLo b ∧ M.chLo b ≤ 100) ∧ 0 ≤ M.chHi b ∧ M.chHi b ≤ 100 := by
  rcases (show b = 1 ∨ b = 2 ∨ b = 3 by omega) with e | e | e <;> subst e <;> decide
theorem sl_set1 {α : Type} {size : Nat} {cell : α → Nat → Value} {w : World} {A : Option Addr} {xs : List α} {b i : Nat} {u : Value} (h : Sl size cell w w.heap.size A xs) (hne : ∀ ad, A = some ad → b ≠ ad.block) : Sl size cell (w.setCell ⟨b, i, none⟩ u) (w.setCell ⟨b, i, none⟩ u).heap.size A xs :=
  (Sl.setFar h (p := ⟨b, i, none⟩) (fun ad e e2 => hne ad e e2.symm) u).more (by simp)
theorem sl_set3 {α : Type} {size : Nat} {cell : α → Nat → Value} {w : World} {A : Option Addr} {xs : List α} {b : Nat} {u v t : Value} (h : Sl size cell w w.heap.size A xs) (hne : ∀ ad, A = some ad → b ≠ ad.block) : Sl size cell (((w.setCell ⟨b, 0, none⟩ u).setCell ⟨b, 1, none⟩ v).setCell ⟨b, 2, none⟩ t) (((w.setCell ⟨b, 0, none⟩ u).setCell ⟨b, 1, none⟩ v).setCell ⟨b, 2, none⟩ t).heap.size A xs :=
  sl_set1 (sl_set1 (sl_set1 h hne) hne) hne
def zSE : SE := ⟨⟨0, 0, 0, 0, 0, [], 0, 0⟩, none, 0⟩
def SE.inB (b : Int) (e : SE) : SE := ⟨M.inB b e.s, e.A, e.c⟩
structure BR (V : World) (n : Nat) (wr : World) (g1 g2 : Nat) (ts : List SE) (qs : List Int) : Prop where
  st : wr.ownsRow V.heap.size 40 8 (.slice (some ⟨g1, 0, none⟩) n n) n (flat 8 secell ts)
  pp : wr.ownsRow V.heap.size 3 1 (.slice (some ⟨g2, 0, none⟩) n n) n (flat 1 icell qs)
theorem BR.below {V wr w' : World} {n g1 g2 : Nat} {ts : List SE} {qs : List Int} (h : BR V n wr g1 g2 ts qs) (hb : Below wr.heap.size wr w') : BR V n w' g1 g2 ts qs := ⟨own_below h.st hb, own_below h.pp hb⟩
theorem BR.lt1 {V wr : World} {n g1 g2 : Nat} {ts : List SE} {qs : List Int} (h : BR V n wr g1 g2 ts qs) : V.heap.size ≤ g1 ∧ g1 < wr.heap.size := own_lt h.st
theorem BR.lt2 {V wr : World} {n g1 g2 : Nat} {ts : List SE} {qs : List Int} (h : BR V n wr g1 g2 ts qs) : V.heap.size ≤ g2 ∧ g2 < wr.heap.size := own_lt h.pp
theorem own_belowB {w w' : World} {B base : Nat} {e : TypeId} {size g n c : Nat} {xs : List Value} (h : w.ownsRow base e size (.slice (some ⟨g, 0, none⟩) n c) n xs) (hb : Below B w w') (hg : g < B) : w'.ownsRow base e size (.slice (some ⟨g, 0, none⟩) n c) n xs := by
  refine ⟨h.1, ?_⟩
  rcases h.2 with ⟨h0, _⟩ | ⟨g', cap, cur, hv, h1, h2, h3⟩
  · cases h0
  · cases hv
    exact .inr ⟨g, c, cur, rfl, h1, (hb.block g hg).trans h2, h3⟩
theorem BR.belowB {V wr w' : World} {B n g1 g2 : Nat} {ts : List SE} {qs : List Int} (h : BR V n wr g1 g2 ts qs) (hb : Below B wr w') (h1 : g1 < B) (h2 : g2 < B) : BR V n w' g1 g2 ts qs := ⟨own_belowB h.st hb h1, own_belowB h.pp hb h2⟩
theorem BR.st_at {V wr : World} {n g1 g2 : Nat} {ts : List SE} {qs : List Int} (h : BR V n wr g1 g2 ts qs) {k : Nat} (hk : k < ts.length) : ∀ j, j < 8 → wr.cell? ⟨g1, k * 8 + j, none⟩ = some (secell ts[k] j) ∧ wr.frozen? ⟨g1, k * 8 + j, none⟩ = false := fun _ hj => own_at h.st hk hj
theorem BR.pp_at {V wr : World} {n g1 g2 : Nat} {ts : List SE} {qs : List Int} (h : BR V n wr g1 g2 ts qs) {k : Nat} (hk : k < qs.length) : wr.cell? ⟨g2, k, none⟩ = some (.int .i64 qs[k]) ∧ wr.frozen? ⟨g2, k, none⟩ = false := by
  have := own_at h.pp hk (j := 0) (by decide)
  simpa [icell] using this
theorem grown_set (w : World) (b i : Nat) (v : Value) : w.grownBy (w.setCell ⟨b, i, none⟩ v) (some b) :=
  ⟨rfl, rfl, rfl, by simp, fun k _ hk => heap_setCell_other w ⟨b, i, none⟩ k v (fun e => hk (by simp [e]))⟩
theorem BR.st8 {V wr : World} {n g1 g2 : Nat} {ts : List SE} {qs : List Int} (h : BR V n wr g1 g2 ts qs) {k : Nat} (hk : k < ts.length) : ∃ v0 v1 v2 v3 v4 v5 v6 v7 : Value, wr.cell? ⟨g1, k * 8, none⟩ = some v0 ∧ wr.cell? ⟨g1, k * 8 + 1, none⟩ = some v1 ∧ wr.cell? ⟨g1, k * 8 + 2, none⟩ = some v2 ∧ wr.cell? ⟨g1, k * 8 + 3, none⟩ = some v3 ∧ wr.cell? ⟨g1, k * 8 + 4, none⟩ = some v4 ∧ wr.cell? ⟨g1, k * 8 + 5, none⟩ = some v5 ∧ wr.cell? ⟨g1, k * 8 + 6, none⟩ = some v6 ∧ wr.cell? ⟨g1, k * 8 + 7, none⟩ = some v7 ∧ wr.frozen? ⟨g1, k * 8, none⟩ = false ∧ wr.frozen? ⟨g1, k * 8 + 1, none⟩ = false ∧ wr.frozen? ⟨g1, k * 8 + 2, none⟩ = false ∧ wr.frozen? ⟨g1, k * 8 + 3, none⟩ = false ∧ wr.frozen? ⟨g1, k * 8 + 4, none⟩ = false ∧ wr.frozen? ⟨g1, k * 8 + 5, none⟩ = false ∧ wr.frozen? ⟨g1, k * 8 + 6, none⟩ = false ∧ wr.frozen? ⟨g1, k * 8 + 7, none⟩ = false := by
  have h2 := h.st_at hk
  exact ⟨_, _, _, _, _, _, _, _, (h2 0 (by decide)).1, (h2 1 (by decide)).1, (h2 2 (by decide)).1, (h2 3 (by decide)).1, (h2 4 (by decide)).1, (h2 5 (by decide)).1, (h2 6 (by decide)).1, (h2 7 (by decide)).1, (h2 0 (by decide)).2, (h2 1 (by decide)).2, (h2 2 (by decide)).2, (h2 3 (by decide)).2, (h2 4 (by decide)).2, (h2 5 (by decide)).2, (h2 6 (by decide)).2, (h2 7 (by decide)).2⟩
theorem BR.pp1 {V wr : World} {n g1 g2 : Nat} {ts : List SE} {qs : List Int} (h : BR V n wr g1 g2 ts qs) {k : Nat} (hk : k < qs.length) : ∃ v : Value, wr.cell? ⟨g2, k, none⟩ = some v ∧ wr.frozen? ⟨g2, k, none⟩ = false := ⟨_, h.pp_at hk⟩
theorem BR.put {V wr : World} {n g1 g2 : Nat} {ts : List SE} {qs : List Int} (h : BR V n wr g1 g2 ts qs) {k : Nat} (hk : k < ts.length) (hk2 : k < qs.length) (y : SE) (q : Int) :
    BR V n ((setRun wr g1 (k * 8) ((List.range 8).map (secell y))).setCell ⟨g2, k, none⟩ (.int .i64 q)) g1 g2 (ts.set k y) (qs.set k q) := by
  have h1 := own_put (by decide) h.st hk y
  have hne : g1 ≠ g2 := fun e => by
    rcases own_ne h.st h.pp (by decide) with h2 | h2
    · cases h2
    · exact h2 (by rw [e])
  have hg := setRun_grown (g := g1) (o := k * 8) ((List.range 8).map (secell y)) (World.grownBy.refl wr (some g1))
  generalize setRun wr g1 (k * 8) ((List.range 8).map (secell y)) = wx at *
  have h2 : wx.ownsRow V.heap.size 3 1 (.slice (some ⟨g2, 0, none⟩) n n) n (flat 1 icell qs) := World.ownsRow.kept h.pp hg (.inr (fun e => hne (Option.some.inj e).symm))
  have h3 := own_set (size := 1) (cell := icell) h2 hk2 (j := 0) (y := q) (u := .int .i64 q) (by decide) rfl (fun j' h1 h2 => absurd h1 (by omega))
  have h4 := World.ownsRow.kept h1 (grown_set wx g2 k (.int .i64 q)) (.inr (fun e => hne (Option.some.inj e)))
  rw [Nat.mul_one, Nat.add_zero] at h3
  exact ⟨h4, h3⟩
theorem BR.set_rules {V wr : World} {n g1 g2 : Nat} {ts : List SE} {qs : List Int} (h : BR V n wr g1 g2 ts qs) (rk j : Nat) (h1 : g1 < rk) (h2 : g2 < rk) (v : Value) : BR V n (wr.setCell ⟨rk, j, none⟩ v) g1 g2 ts qs :=
  ⟨World.ownsRow.kept h.st (grown_set wr rk j v) (.inr (fun e => by have e2 : g1 = rk := Option.some.inj e; omega)), World.ownsRow.kept h.pp (grown_set wr rk j v) (.inr (fun e => by have e2 : g2 = rk := Option.some.inj e; omega))⟩
structure RC (w : World) (base br : Nat) (ps ls : List P5) (cs : List P4) (vP vL vC : Value) : Prop where
  box : Box w br #[vP, vL, vC] 30
  p : w.ownsRow base 66 5 vP ps.length (flat 5 p5cell ps)
  l : w.ownsRow base 68 5 vL ls.length (flat 5 p5cell ls)
  c : w.ownsRow base 71 4 vC cs.length (flat 4 p4cell cs)
theorem RC.below {w w' : World} {base br : Nat} {ps ls : List P5} {cs : List P4} {vP vL vC : Value} (h : RC w base br ps ls cs vP vL vC) (hb : Below w.heap.size w w') : RC w' base br ps ls cs vP vL vC := ⟨h.box.below hb, own_below h.p hb, own_below h.l hb, own_below h.c hb⟩
theorem RB.toC {w : World} {base br : Nat} {ps ls : List P5} {vP vL : Value} (h : RB w base br ps ls vP vL) : RC w base br ps ls [] vP vL (.slice none 0 0) := ⟨h.box, h.p, h.l, own_nil _ _ _ _ _⟩
theorem own_base_below {w w' : World} {base : Nat} {e : TypeId} {size : Nat} {v : Value} {n : Nat} {xs : List Value} (h : w.ownsRow base e size v n xs) (hg : w.grownBy w' v.ownBlock) (hb : base ≤ w.heap.size) : Below base w w' := (Below.refl base w).grown hg hb (fun k hk => (h.lt k hk).1)
theorem RB.sortP {w w' : World} {base br : Nat} {ps ls : List P5} {vP vL : Value} (h : RB w base br ps ls vP vL) (ho : w'.ownsRow base 66 5 vP ps.length (flat 5 p5cell (M.srt5 ps))) (hg : w.grownBy w' vP.ownBlock) : RB w' base br (M.srt5 ps) ls vP vL :=
  ⟨h.box.grown hg (h.box.ne_own (by decide) h.p), by rw [M.srt5_len]; exact ho, h.l.kept hg (own_ne h.l h.p (by decide))⟩
theorem RB.sortL {w w' : World} {base br : Nat} {ps ls : List P5} {vP vL : Value} (h : RB w base br ps ls vP vL) (ho : w'.ownsRow base 68 5 vL ls.length (flat 5 p5cell (M.srt5 ls))) (hg : w.grownBy w' vL.ownBlock) : RB w' base br ps (M.srt5 ls) vP vL :=
  ⟨h.box.grown hg (h.box.ne_own (by decide) h.l), h.p.kept hg (own_ne h.p h.l (by decide)), by rw [M.srt5_len]; exact ho⟩
theorem RB.addP {w w1 : World} {base br : Nat} {ps ls qs : List P5} {vP vL v : Value} {n : Nat} (h : RB w base br ps ls vP vL) (hbr : br < base) (ho : w1.ownsRow base 66 5 v n (flat 5 p5cell (ps ++ qs))) (hn : n = (ps ++ qs).length) (hg : w.grownBy w1 vP.ownBlock) : RB (w1.setCell ⟨br, 0, none⟩ v) base br (ps ++ qs) ls v vL := by
  subst hn
  exact ⟨(h.box.grown hg (h.box.ne_own (by decide) h.p)).set 0 _, ownsRow_setCell_below ho (by dsimp only; exact hbr) _, ownsRow_setCell_below (h.l.kept hg (own_ne h.l h.p (by decide))) (by dsimp only; exact hbr) _⟩
theorem RB.addL {w w1 : World} {base br : Nat} {ps ls qs : List P5} {vP vL v : Value} {n : Nat} (h : RB w base br ps ls vP vL) (hbr : br < base) (ho : w1.ownsRow base 68 5 v n (flat 5 p5cell (ls ++ qs))) (hn : n = (ls ++ qs).length) (hg : w.grownBy w1 vL.ownBlock) : RB (w1.setCell ⟨br, 1, none⟩ v) base br ps (ls ++ qs) vP v := by
  subst hn
  exact ⟨(h.box.grown hg (h.box.ne_own (by decide) h.l)).set 1 _, ownsRow_setCell_below (h.p.kept hg (own_ne h.p h.l (by decide))) (by dsimp only; exact hbr) _, ownsRow_setCell_below ho (by dsimp only; exact hbr) _⟩
theorem RC.addC {w w1 : World} {base br : Nat} {ps ls : List P5} {cs qs : List P4} {vP vL vC v : Value} {n : Nat} (h : RC w base br ps ls cs vP vL vC) (hbr : br < base) (ho : w1.ownsRow base 71 4 v n (flat 4 p4cell (cs ++ qs))) (hn : n = (cs ++ qs).length) (hg : w.grownBy w1 vC.ownBlock) : RC (w1.setCell ⟨br, 2, none⟩ v) base br ps ls (cs ++ qs) vP vL v := by
  subst hn
  exact ⟨(h.box.grown hg (h.box.ne_own (by decide) h.c)).set 2 _, ownsRow_setCell_below (h.p.kept hg (own_ne h.p h.c (by decide))) (by dsimp only; exact hbr) _, ownsRow_setCell_below (h.l.kept hg (own_ne h.l h.c (by decide))) (by dsimp only; exact hbr) _, ownsRow_setCell_below ho (by dsimp only; exact hbr) _⟩
theorem BR.ld8 {V wr : World} {n g1 g2 : Nat} {ts : List SE} {qs : List Int} (h : BR V n wr g1 g2 ts qs) {k : Nat} (hk : k < ts.length) :
    wr.cell? ⟨g1, k * 8, none⟩ = some (.int .i64 ts[k].s.id) ∧ wr.cell? ⟨g1, k * 8 + 1, none⟩ = some (.int .i64 ts[k].s.x) ∧ wr.cell? ⟨g1, k * 8 + 2, none⟩ = some (.int .i64 ts[k].s.y) ∧ wr.cell? ⟨g1, k * 8 + 3, none⟩ = some (.int .i64 ts[k].s.pw) ∧ wr.cell? ⟨g1, k * 8 + 4, none⟩ = some (.int .i64 ts[k].s.h) ∧ wr.cell? ⟨g1, k * 8 + 5, none⟩ = some (.slice ts[k].A ts[k].s.pat.length ts[k].c) ∧ wr.cell? ⟨g1, k * 8 + 6, none⟩ = some (.int .i64 ts[k].s.band) ∧ wr.cell? ⟨g1, k * 8 + 7, none⟩ = some (.int .i64 ts[k].s.ch) := by
  have h2 := h.st_at hk
  exact ⟨(h2 0 (by decide)).1, (h2 1 (by decide)).1, (h2 2 (by decide)).1, (h2 3 (by decide)).1, (h2 4 (by decide)).1, (h2 5 (by decide)).1, (h2 6 (by decide)).1, (h2 7 (by decide)).1⟩
set_option maxHeartbeats 64000000 in
theorem cbuild_ok (W H : Int) (GA PA : Option Addr) (gc pc : Nat) (G P : List Int) (LA : Option Addr) (lc : Nat) (es : List SE) (b : Int) (w : World) (ht : Tab w) (hg : Sl 1 icell w w.heap.size GA G) (hp : Sl 1 icell w w.heap.size PA P) (hL : Sl 8 secell w w.heap.size LA es) (hP : Pats w es) (hn : es.length ≤ 4) (hb : 1 ≤ b ∧ b ≤ 3) (hok : M.cbOk W H G P (es.map (·.s))) :
    Calls Tryz.prog 24 #[tv W H GA PA G.length gc P.length pc, .slice LA es.length lc, .int .i64 b] w (RetR w (M.gP W H G P b (es.map (·.s)), M.gL W H G P b (es.map (·.s)), M.gC W H G P b (es.map (·.s))) 0) := by
  obtain ⟨V, HW, xt, xr, hB, -⟩ := boxes2 w #[.int .i64 W, .int .i64 H, .slice GA G.length gc, .slice PA P.length pc] 24 #[.slice none 0 0, .slice none 0 0, .slice none 0 0] 30
  have hgV := (hg.below hB).more hB.size
  have hpV := (hp.below hB).more hB.size
  have hLV := (hL.below hB).more hB.size
  have hPV := hP.below hB
  have hTV := ht.kept hB
  have htv := hok.2.1
  obtain ⟨t1, t2, t3, t4, t5, t6⟩ := M.tvalid_iff.1 htv
  have hwh := M.wh_le t1 t2
  have HWH : Hid ((W * H).toNat ≤ 4096) := Lib.hid (by omega)
  have hgl : G.length ≤ 9223372036854775807 := by omega
  have hpl : P.length ≤ 9223372036854775807 := by omega
  have HT6 := Lib.hid t6
  clear t1 t2 t3 t4 t5 t6 hwh
  have HOK : Hid (∀ k (hk : k < es.length), M.okS W H G P es[k].s = true) := Lib.hid (fun k hk => by
    have := hok.2.2.2 k (by rw [List.length_map]; exact hk)
    rwa [List.getElem_map] at this)
  have HPL : Hid (∀ e ∈ es, e.s.pat.length ≤ 1000) := Lib.hid (fun e he => by
    obtain ⟨k, hk, rfl⟩ := List.getElem_of_mem he
    rw [(M.avalid_iff.1 (M.svalid_iff.1 (M.okS_iff.1 (HOK.out k hk)).1).2.2.2.2.2.2).2.1]; omega)
  have HRI : Hid (M.rising (es.map (·.s))) := Lib.hid (M.rising_of hok.2.2.1)
  have hcb : M.cbR W H G P (es.map (·.s)) = 0 := by unfold M.cbR; rw [if_pos hok]
  have kC := channels_any b V
  rw [show M.chOk b = true by unfold M.chOk; exact decide_eq_true hb] at kC
  have kB := checkBuild_any W H GA PA gc pc G P LA lc es V hTV hgV hpV hLV hPV hgl hpl (by omega) HPL.out
  rw [hcb] at kB
  clear hcb hok
  obtain ⟨c0, c1, c2, c3⟩ := xt.c4
  obtain ⟨i0, hi0, hz0, hz1, hz2⟩ := info_parts intInfo
  have Hi := Lib.hid hi0; have Hz0 := Lib.hid hz0; have Hz1 := Lib.hid hz1; have Hz2 := Lib.hid hz2
  obtain ⟨i8, hi8, hz08, hz18, hz28⟩ := info_parts seInfo
  have Hi8 := Lib.hid hi8; have Hz08 := Lib.hid hz08; have Hz18 := Lib.hid hz18; have Hz28 := Lib.hid hz28
  clear hi0 hz0 hz1 hz2 hi8 hz08 hz18 hz28
  have hV := HW.out
  go_enter Tryz.func24, Tryz.ntmps24
  go_wp2_with fail
  clear hV
  refine kC.mono ?_
  rintro e w1 ⟨rfl, rfl⟩
  go_wp2_with fail
  refine kB.mono ?_
  rintro e w2 ⟨rfl, hb2⟩
  clear kC kB c0 c1 c2 c3
  have xt2 := xt.below hb2
  go_wp2_with (first
    | (at_make; refine wpList_make_full _ rfl _ _ 25 rfl w2.heap.size 40 i8 _ 8 Tryz.underlying25 Hi8.out Hz08.out Hz18.out .i64 .i64 _ _ es.length rfl rfl rfl rfl (by rw [Hz28.out]; omega) (by unfold maxLen; omega) (Nat.le_refl _) ?_; intro w3 hown3 hg3)
    | (at_make; refine wpList_make_full _ rfl _ _ 22 rfl w3.heap.size 3 i0 _ 1 Tryz.underlying22 Hi.out Hz0.out Hz1.out .i64 .i64 _ _ es.length rfl rfl rfl rfl (by rw [Hz2.out]; omega) (by unfold maxLen; omega) (Nat.le_refl _) ?_; intro w4 hown4 hg4))
  have hB4 : Below V.heap.size V w4 := ((hb2.grown hg3 hb2.size (by simp)).grown hg4 (Nat.le_trans hb2.size hg3.size) (by simp))
  have hs3 : w2.heap.size ≤ w3.heap.size := hg3.size
  have em8 := made_flat (cell := secell) (size := 8) (x0 := zSE) (by decide) (Value.agg #[.int .i64 0, .int .i64 0, .int .i64 0, .int .i64 0, .int .i64 0, .slice none 0 0, .int .i64 0, .int .i64 0]).cells rfl es.length
  have em1 := made_flat (cell := icell) (size := 1) (x0 := (0 : Int)) (by decide) (Value.int .i64 0).cells rfl es.length
  rw [em8] at hown3
  rw [em1] at hown4
  have hgl2 : w2.heap.size < w3.heap.size := (own_lt hown3).2
  clear em8 em1
  have hown3' := own_base (World.ownsRow.kept hown3 hg4 (.inr (fun e => by cases e))) hb2.size
  have hown4' := own_base hown4 (Nat.le_trans hb2.size hs3)
  have br : BR V es.length w4 w2.heap.size w3.heap.size (mixTo (SE.inB b) (fun _ => zSE) es 0) (mixTo (fun e => M.ppl W H G P (SE.inB b e).s) (fun _ => (0 : Int)) es 0) := ⟨by rw [mixTo_zero, List.map_const']; exact hown3', by rw [mixTo_zero, List.map_const']; exact hown4'⟩
  clear hown3 hown4 hown3' hown4' hg3 hg4
  have hgl1 : V.heap.size ≤ w2.heap.size := hb2.size
  generalize w2.heap.size = g1 at *
  generalize w3.heap.size = g2 at *
  go_loopw [14, 15, 16, 17, 51] (fun _ _ _ _ i wr => ∃ k : Nat, k ≤ es.length ∧ i = .int .i64 k ∧ Below V.heap.size V wr ∧ BR V es.length wr g1 g2 (mixTo (SE.inB b) (fun _ => zSE) es k) (mixTo (fun e => M.ppl W H G P (SE.inB b e).s) (fun _ => (0 : Int)) es k)) (fun _ _ _ _ i _ => es.length - (intOf i).toNat)
  case atStart => exact ⟨0, Nat.zero_le _, rfl, hB4, br⟩
  case round =>
    clear br hB4
    obtain ⟨k, hk, rfl, hBr, br⟩ := hrel
    by_cases hlt : k < es.length
    · obtain ⟨la, rfl, hlb, a0, a1, a2, a3, a4, a5, a6, a7⟩ := (hLV.below hBr).st8 hlt
      have hS := (hPV.below hBr).at_ hlt
      have hokk := M.inB_ok hb (HOK.out k hlt)
      have hps : 0 ≤ M.ppl W H G P (M.inB b es[k].s) := (M.totl_bd HT6.out (Nat.le_trans M.area_len (Nat.le_trans HWH.out (by decide)))).1
      obtain ⟨U, HU, u0, hBU, -⟩ := boxes1 wr #[.int .i64 es[k].s.id, .int .i64 es[k].s.x, .int .i64 es[k].s.y, .int .i64 es[k].s.pw, .int .i64 es[k].s.h, .slice es[k].A es[k].s.pat.length es[k].c, .int .i64 b, .int .i64 (M.chLo b)] 40
      have BU := hBr.trans (hBU.mono hBr.size)
      have kP := people_ok W H GA PA gc pc G P (M.inB b es[k].s) es[k].A es[k].c U (hTV.kept BU) ((hgV.below BU).more BU.size) ((hpV.below BU).more BU.size) ((hS.below hBU).more hBU.size) hokk
      obtain ⟨b0, b1, b2, b3, b4, b5, b6, b7⟩ := u0.c8
      obtain ⟨c0, c1, c2, c3⟩ := (xt.below BU).c4
      have hU := HU.out
      go_wp2_with fail
      clear hU b0 b1 b2 b3 b4 b5 b6 b7 c0 c1 c2 c3 a0 a1 a2 a3 a4 a5 a6 a7
      refine kP.mono ?_
      rintro e w5 ⟨rfl, hb5⟩
      have B5 := BU.trans (hb5.mono BU.size)
      have br5 := (br.below hBU).below hb5
      obtain ⟨v0, v1, v2, v3, v4, v5, v6, v7, p0, p1, p2, p3, p4, p5, p6, p7, f0, f1, f2, f3, f4, f5, f6, f7⟩ := br5.st8 (k := k) (by rw [mixTo_length]; exact hlt)
      obtain ⟨v8, p8, f8⟩ := br5.pp1 (k := k) (by rw [mixTo_length]; exact hlt)
      obtain ⟨b0, b1, b2, b3, b4, b5, b6, b7⟩ := (u0.below hb5).c8
      have x0 : (0 : Int) ≤ (k : Int) := by omega
      have x1 : (k : Int) < (es.length : Int) := by omega
      go_wp2_with fail
      have hput := br5.put (k := k) (by rw [mixTo_length]; exact hlt) (by rw [mixTo_length]; exact hlt) (SE.inB b es[k]) (M.ppl W H G P (M.inB b es[k].s))
      have e1 := mixTo_succ (h := SE.inB b) (f := fun _ => zSE) hlt
      have e2 := mixTo_succ (h := fun e => M.ppl W H G P (SE.inB b e).s) (f := fun _ => (0 : Int)) hlt
      rw [e1] at hput
      have hput2 : BR V es.length _ g1 g2 (mixTo (SE.inB b) (fun _ => zSE) es (k + 1)) (mixTo (fun e => M.ppl W H G P (SE.inB b e).s) (fun _ => (0 : Int)) es (k + 1)) := e2 ▸ hput
      clear hput e1 e2
      have hgg1 := br5.lt1.1
      have hgg2 := br5.lt2.1
      go_roundw
      case rel =>
        refine ⟨k + 1, hlt, by go_num, ?_, hput2⟩
        iterate 9 refine Below.setCell ?_ (by assumption) _
        exact B5
      case measure => simp [intOf]; omega
    · obtain rfl : k = es.length := by omega
      rw [mixTo_all, mixTo_all] at br
      have HTS : Hid ((es.map (SE.inB b)).map (·.s) = (es.map (·.s)).map (M.inB b)) := Lib.hid (by rw [List.map_map, List.map_map]; rfl)
      have htl : (es.map (SE.inB b)).length = es.length := by rw [List.length_map]
      have hql : (es.map fun e => M.ppl W H G P (SE.inB b e).s).length = es.length := by rw [List.length_map]
      have HTO : Hid (∀ k (hk : k < (es.map (SE.inB b)).length), M.okS W H G P (es.map (SE.inB b))[k].s = true) := Lib.hid (fun k hk => by
        rw [List.getElem_map]; exact M.inB_ok hb (HOK.out k (by rw [List.length_map] at hk; exact hk)))
      have HQS : Hid (∀ k (hk : k < (es.map (SE.inB b)).length) (hk2 : k < (es.map fun e => M.ppl W H G P (SE.inB b e).s).length), (es.map fun e => M.ppl W H G P (SE.inB b e).s)[k] = M.ppl W H G P (es.map (SE.inB b))[k].s) := Lib.hid (fun k hk hk2 => by
        rw [List.getElem_map, List.getElem_map])
      have HPT : Hid (Pats V (es.map (SE.inB b))) := Lib.hid (fun e he => by
        obtain ⟨e', he', rfl⟩ := List.mem_map.1 he
        exact hPV e' he')
      generalize (es.map fun e => M.ppl W H G P (SE.inB b e).s) = qs at *
      generalize es.map (SE.inB b) = ts at *
      have HRS : Hid ((ts.map (·.s)).Pairwise fun s t => s.id < t.id) := Lib.hid (by rw [HTS.out]; exact M.rising_in HRI.out)
      have HGE : Hid ((M.gP W H G P b (es.map (·.s)), M.gL W H G P b (es.map (·.s)), M.gC W H G P b (es.map (·.s))) = (M.bP St.id (M.forb W H G P) (M.chLo b) (M.chHi b) (ts.map (·.s)), M.rL St.id (M.forb W H G P) (M.ls0 W H G P) (M.chLo b) (M.chHi b) (ts.map (·.s)), M.bC St.id (M.forb W H G P) (M.ls0 W H G P) (M.chLo b) (M.chHi b) (M.ppl W H G P) (ts.map (·.s)))) := Lib.hid (by unfold M.gP M.gL M.gC; rw [HTS.out])
      have HLS : Hid (∀ k (hk : k < ts.length), (ts.map (·.s)).drop k = ts[k].s :: (ts.map (·.s)).drop (k + 1)) := Lib.hid (fun k hk => by rw [List.drop_eq_getElem_cons (by rw [List.length_map]; exact hk), List.getElem_map])
      have HLN : Hid ((ts.map (·.s)).length = es.length) := Lib.hid (by rw [List.length_map, htl])
      generalize ts.map (·.s) = ss at *
      have HBP : Hid ((M.bP St.id (M.forb W H G P) (M.chLo b) (M.chHi b) ss).length ≤ 48) := Lib.hid (Nat.le_trans (M.bP_len ss) (by rw [HLN.out]; exact Nat.mul_le_mul hn (show es.length * 3 ≤ 12 by omega)))
      have HBL : Hid ((M.bL St.id (M.forb W H G P) (M.ls0 W H G P) (M.chLo b) (M.chHi b) ss).length ≤ 48) := Lib.hid (Nat.le_trans (M.bL_len ss) (Nat.le_trans (by rw [HLN.out]; exact Nat.mul_le_mul hn (show es.length * 2 ≤ 8 by omega)) (by decide)))
      have hg1 := br.lt1.2
      have hg2 := br.lt2.2
      obtain ⟨X, HX, rb0, hBX, hXs⟩ := boxes1 wr #[.slice none 0 0, .slice none 0 0, .slice none 0 0] 30
      have brX := br.below hBX
      have BX := hBr.trans (hBX.mono hBr.size)
      have hrv : V.heap.size ≤ wr.heap.size := hBr.size
      have hX := HX.out
      clear br
      go_wp2_with fail
      clear hX HX hBX
      generalize wr.heap.size = rk at *
      have rbX : RB X (rk + 1) rk [] [] (.slice none 0 0) (.slice none 0 0) := ⟨rb0, own_nil _ _ _ _ _, own_nil _ _ _ _ _⟩
      have hXs' : rk + 1 ≤ X.heap.size := by omega
      clear rb0 hXs hBr
      go_loopw [19, 20, 21, 22, 81] (fun _ _ _ _ i wq => ∃ (m : Nat) (ps ls : List P5) (vP vL : Value), m ≤ es.length ∧ i = .int .i64 m ∧ Below V.heap.size V wq ∧ BR V es.length wq g1 g2 ts qs ∧ RB wq (rk + 1) rk ps ls vP vL ∧ rk + 1 ≤ wq.heap.size ∧ Hid (ps ++ M.bP St.id (M.forb W H G P) (M.chLo b) (M.chHi b) (ss.drop m) = M.bP St.id (M.forb W H G P) (M.chLo b) (M.chHi b) ss) ∧ Hid (ls ++ M.bL St.id (M.forb W H G P) (M.ls0 W H G P) (M.chLo b) (M.chHi b) (ss.drop m) = M.bL St.id (M.forb W H G P) (M.ls0 W H G P) (M.chLo b) (M.chHi b) ss)) (fun _ _ _ _ i _ => es.length - (intOf i).toNat)
      case atStart => exact ⟨0, [], [], _, _, Nat.zero_le _, rfl, BX, brX, rbX, hXs', Lib.hid rfl, Lib.hid rfl⟩
      case round =>
        clear brX rbX BX hXs'
        obtain ⟨m, ps, ls, vP, vL, hm, rfl, hBq, br, rb, hrk, HPQ, HLQ⟩ := hrel
        by_cases hlt : m < es.length
        · have hmt : m < ts.length := by omega
          have x0 : (0 : Int) ≤ (m : Int) := by omega
          have x1 : (m : Int) < (es.length : Int) := by omega
          have HD := HLS.out m hmt
          have HPQ2 : Hid (ps ++ ((ss.drop (m + 1)).flatMap (M.bpT St.id (M.forb W H G P) (M.chLo b) (M.chHi b) ts[m].s) ++ M.bP St.id (M.forb W H G P) (M.chLo b) (M.chHi b) (ss.drop (m + 1))) = M.bP St.id (M.forb W H G P) (M.chLo b) (M.chHi b) ss) := Lib.hid (by rw [← HPQ.out, HD, M.bP])
          have HLQ2 : Hid (ls ++ ((ss.drop (m + 1)).flatMap (fun t => M.ld1 St.id (M.forb W H G P) (M.ls0 W H G P) (M.chLo b) (M.chHi b) ts[m].s t ++ M.ld1 St.id (M.forb W H G P) (M.ls0 W H G P) (M.chLo b) (M.chHi b) t ts[m].s) ++ M.bL St.id (M.forb W H G P) (M.ls0 W H G P) (M.chLo b) (M.chHi b) (ss.drop (m + 1))) = M.bL St.id (M.forb W H G P) (M.ls0 W H G P) (M.chLo b) (M.chHi b) ss) := Lib.hid (by rw [← HLQ.out, HD, M.bL])
          clear HD HPQ HLQ
          go_wp2_with fail
          go_loopw [20, 21, 22] (fun j _ _ wq => ∃ (c : Nat) (ps ls : List P5) (vP vL : Value), m + 1 ≤ c ∧ c ≤ es.length ∧ j = .int .i64 c ∧ Below V.heap.size V wq ∧ BR V es.length wq g1 g2 ts qs ∧ RB wq (rk + 1) rk ps ls vP vL ∧ rk + 1 ≤ wq.heap.size ∧ Hid (ps ++ ((ss.drop c).flatMap (M.bpT St.id (M.forb W H G P) (M.chLo b) (M.chHi b) ts[m].s) ++ M.bP St.id (M.forb W H G P) (M.chLo b) (M.chHi b) (ss.drop (m + 1))) = M.bP St.id (M.forb W H G P) (M.chLo b) (M.chHi b) ss) ∧ Hid (ls ++ ((ss.drop c).flatMap (fun t => M.ld1 St.id (M.forb W H G P) (M.ls0 W H G P) (M.chLo b) (M.chHi b) ts[m].s t ++ M.ld1 St.id (M.forb W H G P) (M.ls0 W H G P) (M.chLo b) (M.chHi b) t ts[m].s) ++ M.bL St.id (M.forb W H G P) (M.ls0 W H G P) (M.chLo b) (M.chHi b) (ss.drop (m + 1))) = M.bL St.id (M.forb W H G P) (M.ls0 W H G P) (M.chLo b) (M.chHi b) ss)) (fun j _ _ _ => es.length - (intOf j).toNat)
          case atStart => exact ⟨m + 1, ps, ls, vP, vL, Nat.le_refl _, hlt, by go_num, hBq, br, rb, hrk, HPQ2, HLQ2⟩
          case round =>
            clear br rb hrk HPQ2 HLQ2 hBq
            obtain ⟨c, ps, ls, vP, vL, hmc, hc, rfl, hBq, br, rb, hrk, HPQ, HLQ⟩ := hrel
            by_cases hlt2 : c < es.length
            · have hct : c < ts.length := by omega
              have hmq : m < qs.length := by omega
              have hcq : c < qs.length := by omega
              have z0 : (0 : Int) ≤ (c : Int) := by omega
              have z1 : (c : Int) < (es.length : Int) := by omega
              have HD := HLS.out c hct
              have HPN : Hid ((ps ++ M.bpT St.id (M.forb W H G P) (M.chLo b) (M.chHi b) ts[m].s ts[c].s) ++ ((ss.drop (c + 1)).flatMap (M.bpT St.id (M.forb W H G P) (M.chLo b) (M.chHi b) ts[m].s) ++ M.bP St.id (M.forb W H G P) (M.chLo b) (M.chHi b) (ss.drop (m + 1))) = M.bP St.id (M.forb W H G P) (M.chLo b) (M.chHi b) ss) := Lib.hid (by rw [← HPQ.out, HD, List.flatMap_cons]; simp only [List.append_assoc])
              have HLN2 : Hid ((ls ++ (M.ld1 St.id (M.forb W H G P) (M.ls0 W H G P) (M.chLo b) (M.chHi b) ts[m].s ts[c].s ++ M.ld1 St.id (M.forb W H G P) (M.ls0 W H G P) (M.chLo b) (M.chHi b) ts[c].s ts[m].s)) ++ ((ss.drop (c + 1)).flatMap (fun t => M.ld1 St.id (M.forb W H G P) (M.ls0 W H G P) (M.chLo b) (M.chHi b) ts[m].s t ++ M.ld1 St.id (M.forb W H G P) (M.ls0 W H G P) (M.chLo b) (M.chHi b) t ts[m].s) ++ M.bL St.id (M.forb W H G P) (M.ls0 W H G P) (M.chLo b) (M.chHi b) (ss.drop (m + 1))) = M.bL St.id (M.forb W H G P) (M.ls0 W H G P) (M.chLo b) (M.chHi b) ss) := Lib.hid (by rw [← HLQ.out, HD, List.flatMap_cons]; simp only [List.append_assoc])
              clear HD HPQ HLQ
              have hPPl : (M.bpT St.id (M.forb W H G P) (M.chLo b) (M.chHi b) ts[m].s ts[c].s).length ≤ 3 := M.bpT_len _ _
              have hLLl : (M.ld1 St.id (M.forb W H G P) (M.ls0 W H G P) (M.chLo b) (M.chHi b) ts[m].s ts[c].s ++ M.ld1 St.id (M.forb W H G P) (M.ls0 W H G P) (M.chLo b) (M.chHi b) ts[c].s ts[m].s).length ≤ 2 := by rw [List.length_append]; unfold M.ld1; (repeat' split) <;> simp
              have hps48 : ps.length ≤ 48 := by have h1 := HBP.out; have h2 := congrArg List.length HPN.out; simp only [List.length_append] at h2; omega
              have hls48 : ls.length ≤ 48 := by have h1 := HBL.out; have h2 := congrArg List.length HLN2.out; simp only [List.length_append] at h2; omega
              have kR : Hid (∀ wx, Below wr.heap.size wr wx → Calls Tryz.prog 73 #[tv W H GA PA G.length gc P.length pc, stv ts[m].s ts[m].A ts[m].c, stv ts[c].s ts[c].A ts[c].c, .int .i64 qs[m], .int .i64 qs[c], .int .i64 (M.chLo b), .int .i64 (M.chHi b)] wx fun e w' => ∃ XA xc YA yc, e = .returned (.tuple #[ruv XA (M.bpT St.id (M.forb W H G P) (M.chLo b) (M.chHi b) ts[m].s ts[c].s).length xc YA (M.ld1 St.id (M.forb W H G P) (M.ls0 W H G P) (M.chLo b) (M.chHi b) ts[m].s ts[c].s ++ M.ld1 St.id (M.forb W H G P) (M.ls0 W H G P) (M.chLo b) (M.chHi b) ts[c].s ts[m].s).length yc none 0 0, .int .i64 0]) ∧ Sl 5 p5cell w' w'.heap.size XA (M.bpT St.id (M.forb W H G P) (M.chLo b) (M.chHi b) ts[m].s ts[c].s) ∧ Sl 5 p5cell w' w'.heap.size YA (M.ld1 St.id (M.forb W H G P) (M.ls0 W H G P) (M.chLo b) (M.chHi b) ts[m].s ts[c].s ++ M.ld1 St.id (M.forb W H G P) (M.ls0 W H G P) (M.chLo b) (M.chHi b) ts[c].s ts[m].s) ∧ Below wx.heap.size wx w' ∧ (∀ ad, XA = some ad → wx.heap.size ≤ ad.block) ∧ ∀ ad, YA = some ad → wx.heap.size ≤ ad.block) := Lib.hid (fun wx hbx => by
                have hbv := hBq.trans (hbx.mono hBq.size)
                have ho1 := HTO.out m hmt
                have ho2 := HTO.out c hct
                have hp1 := HPT.out ts[m] (List.getElem_mem hmt)
                have hp2 := HPT.out ts[c] (List.getElem_mem hct)
                have hl := M.chBd hb
                have kk := pairRules_ok W H GA PA gc pc G P ts[m].s ts[c].s ts[m].A ts[c].A ts[m].c ts[c].c (M.ppl W H G P ts[m].s) (M.ppl W H G P ts[c].s) (M.chLo b) (M.chHi b) wx (hTV.kept hbv) ((hgV.below hbv).more hbv.size) ((hpV.below hbv).more hbv.size) ((hp1.below hbv).more hbv.size) ((hp2.below hbv).more hbv.size) ho1 ho2 (M.totl_bd HT6.out (Nat.le_trans M.area_len (Nat.le_trans HWH.out (by decide)))) (M.totl_bd HT6.out (Nat.le_trans M.area_len (Nat.le_trans HWH.out (by decide)))) (by omega) (by omega)
                rw [M.prP_eq HT6.out, M.prL_eq] at kk
                rw [HQS.out m hmt hmq, HQS.out c hct hcq]
                exact kk)
              obtain ⟨d0, d1, d2, d3, d4, d5, d6, d7⟩ := br.ld8 hmt
              obtain ⟨e0, e1, e2, e3, e4, e5, e6, e7⟩ := br.ld8 hct
              obtain ⟨q0, -⟩ := br.pp_at hmq
              obtain ⟨q1, -⟩ := br.pp_at hcq
              obtain ⟨c0, c1, c2, c3⟩ := (xt.below hBq).c4
              have hxt := xt.lt
              have hgv1 := br.lt1.1
              have hgv2 := br.lt2.1
              have hel : ∀ wx, Below wr.heap.size wr wx → wx.cell? ⟨w.heap.size, 0, none⟩ = some (.int .i64 W) ∧ wx.cell? ⟨w.heap.size, 1, none⟩ = some (.int .i64 H) ∧ wx.cell? ⟨w.heap.size, 2, none⟩ = some (.slice GA G.length gc) ∧ wx.cell? ⟨w.heap.size, 3, none⟩ = some (.slice PA P.length pc) ∧ wx.cell? ⟨g1, m * 8, none⟩ = some (.int .i64 ts[m].s.id) ∧ wx.cell? ⟨g1, m * 8 + 1, none⟩ = some (.int .i64 ts[m].s.x) ∧ wx.cell? ⟨g1, m * 8 + 2, none⟩ = some (.int .i64 ts[m].s.y) ∧ wx.cell? ⟨g1, m * 8 + 3, none⟩ = some (.int .i64 ts[m].s.pw) ∧ wx.cell? ⟨g1, m * 8 + 4, none⟩ = some (.int .i64 ts[m].s.h) ∧ wx.cell? ⟨g1, m * 8 + 5, none⟩ = some (.slice ts[m].A ts[m].s.pat.length ts[m].c) ∧ wx.cell? ⟨g1, m * 8 + 6, none⟩ = some (.int .i64 ts[m].s.band) ∧ wx.cell? ⟨g1, m * 8 + 7, none⟩ = some (.int .i64 ts[m].s.ch) ∧ wx.cell? ⟨g1, c * 8, none⟩ = some (.int .i64 ts[c].s.id) ∧ wx.cell? ⟨g1, c * 8 + 1, none⟩ = some (.int .i64 ts[c].s.x) ∧ wx.cell? ⟨g1, c * 8 + 2, none⟩ = some (.int .i64 ts[c].s.y) ∧ wx.cell? ⟨g1, c * 8 + 3, none⟩ = some (.int .i64 ts[c].s.pw) ∧ wx.cell? ⟨g1, c * 8 + 4, none⟩ = some (.int .i64 ts[c].s.h) ∧ wx.cell? ⟨g1, c * 8 + 5, none⟩ = some (.slice ts[c].A ts[c].s.pat.length ts[c].c) ∧ wx.cell? ⟨g1, c * 8 + 6, none⟩ = some (.int .i64 ts[c].s.band) ∧ wx.cell? ⟨g1, c * 8 + 7, none⟩ = some (.int .i64 ts[c].s.ch) ∧ wx.cell? ⟨g2, m, none⟩ = some (.int .i64 qs[m]) ∧ wx.cell? ⟨g2, c, none⟩ = some (.int .i64 qs[c]) := fun wx hbx => ⟨(hbx.cell (p := ⟨_, _, none⟩) (by dsimp only; omega)).trans c0, (hbx.cell (p := ⟨_, _, none⟩) (by dsimp only; omega)).trans c1, (hbx.cell (p := ⟨_, _, none⟩) (by dsimp only; omega)).trans c2, (hbx.cell (p := ⟨_, _, none⟩) (by dsimp only; omega)).trans c3, (hbx.cell (p := ⟨_, _, none⟩) (by dsimp only; omega)).trans d0, (hbx.cell (p := ⟨_, _, none⟩) (by dsimp only; omega)).trans d1, (hbx.cell (p := ⟨_, _, none⟩) (by dsimp only; omega)).trans d2, (hbx.cell (p := ⟨_, _, none⟩) (by dsimp only; omega)).trans d3, (hbx.cell (p := ⟨_, _, none⟩) (by dsimp only; omega)).trans d4, (hbx.cell (p := ⟨_, _, none⟩) (by dsimp only; omega)).trans d5, (hbx.cell (p := ⟨_, _, none⟩) (by dsimp only; omega)).trans d6, (hbx.cell (p := ⟨_, _, none⟩) (by dsimp only; omega)).trans d7, (hbx.cell (p := ⟨_, _, none⟩) (by dsimp only; omega)).trans e0, (hbx.cell (p := ⟨_, _, none⟩) (by dsimp only; omega)).trans e1, (hbx.cell (p := ⟨_, _, none⟩) (by dsimp only; omega)).trans e2, (hbx.cell (p := ⟨_, _, none⟩) (by dsimp only; omega)).trans e3, (hbx.cell (p := ⟨_, _, none⟩) (by dsimp only; omega)).trans e4, (hbx.cell (p := ⟨_, _, none⟩) (by dsimp only; omega)).trans e5, (hbx.cell (p := ⟨_, _, none⟩) (by dsimp only; omega)).trans e6, (hbx.cell (p := ⟨_, _, none⟩) (by dsimp only; omega)).trans e7, (hbx.cell (p := ⟨_, _, none⟩) (by dsimp only; omega)).trans q0, (hbx.cell (p := ⟨_, _, none⟩) (by dsimp only; omega)).trans q1⟩
              clear d0 d1 d2 d3 d4 d5 d6 d7 e0 e1 e2 e3 e4 e5 e6 e7 q0 q1 c0 c1 c2 c3
              generalize M.bpT St.id (M.forb W H G P) (M.chLo b) (M.chHi b) ts[m].s ts[c].s = PP at *
              generalize (M.ld1 St.id (M.forb W H G P) (M.ls0 W H G P) (M.chLo b) (M.chHi b) ts[m].s ts[c].s ++ M.ld1 St.id (M.forb W H G P) (M.ls0 W H G P) (M.chLo b) (M.chHi b) ts[c].s ts[m].s) = LL at *
              go_upto_region 25 with fail
              go_cut [21, 22] (fun v e wx => ∃ (wo : World) (bb : Nat) (XA : Option Addr) (xc : Nat) (YA : Option Addr) (yc : Nat), wo = wx ∧ v = .pointer (some ⟨bb, 0, none⟩) ∧ e = .int .i64 0 ∧ wr.heap.size ≤ bb ∧ Box wo bb #[.slice XA PP.length xc, .slice YA LL.length yc, .slice none 0 0] 30 ∧ Sl 5 p5cell wo wo.heap.size XA PP ∧ Sl 5 p5cell wo wo.heap.size YA LL ∧ Below wr.heap.size wr wo ∧ (∀ ad, XA = some ad → wr.heap.size ≤ ad.block) ∧ ∀ ad, YA = some ad → wr.heap.size ≤ ad.block)
              case first =>
                have hc : Below wr.heap.size wr wr.drew := (Below.refl _ _).drew
                have h0 := hel _ hc
                have h1 := hel _ (Below.refl _ _)
                go_region_held3 (fun w' => w'.cell? ⟨w.heap.size, 0, none⟩ = some (.int .i64 W) ∧ w'.cell? ⟨w.heap.size, 1, none⟩ = some (.int .i64 H) ∧ w'.cell? ⟨w.heap.size, 2, none⟩ = some (.slice GA G.length gc) ∧ w'.cell? ⟨w.heap.size, 3, none⟩ = some (.slice PA P.length pc) ∧ w'.cell? ⟨g1, m * 8, none⟩ = some (.int .i64 ts[m].s.id) ∧ w'.cell? ⟨g1, m * 8 + 1, none⟩ = some (.int .i64 ts[m].s.x) ∧ w'.cell? ⟨g1, m * 8 + 2, none⟩ = some (.int .i64 ts[m].s.y) ∧ w'.cell? ⟨g1, m * 8 + 3, none⟩ = some (.int .i64 ts[m].s.pw) ∧ w'.cell? ⟨g1, m * 8 + 4, none⟩ = some (.int .i64 ts[m].s.h) ∧ w'.cell? ⟨g1, m * 8 + 5, none⟩ = some (.slice ts[m].A ts[m].s.pat.length ts[m].c) ∧ w'.cell? ⟨g1, m * 8 + 6, none⟩ = some (.int .i64 ts[m].s.band) ∧ w'.cell? ⟨g1, m * 8 + 7, none⟩ = some (.int .i64 ts[m].s.ch) ∧ w'.cell? ⟨g1, c * 8, none⟩ = some (.int .i64 ts[c].s.id) ∧ w'.cell? ⟨g1, c * 8 + 1, none⟩ = some (.int .i64 ts[c].s.x) ∧ w'.cell? ⟨g1, c * 8 + 2, none⟩ = some (.int .i64 ts[c].s.y) ∧ w'.cell? ⟨g1, c * 8 + 3, none⟩ = some (.int .i64 ts[c].s.pw) ∧ w'.cell? ⟨g1, c * 8 + 4, none⟩ = some (.int .i64 ts[c].s.h) ∧ w'.cell? ⟨g1, c * 8 + 5, none⟩ = some (.slice ts[c].A ts[c].s.pat.length ts[c].c) ∧ w'.cell? ⟨g1, c * 8 + 6, none⟩ = some (.int .i64 ts[c].s.band) ∧ w'.cell? ⟨g1, c * 8 + 7, none⟩ = some (.int .i64 ts[c].s.ch) ∧ w'.cell? ⟨g2, m, none⟩ = some (.int .i64 qs[m]) ∧ w'.cell? ⟨g2, c, none⟩ = some (.int .i64 qs[c])) (first | with_reducible exact h0 | with_reducible exact h1 | with_reducible exact hel _ hc | with_reducible exact hel _ (hc.alloc hc.size _) | with_reducible exact hel _ ((alloc_below wr _).drew) | with_reducible exact hel _ (below_set3 hc hbl))
                  (first
                    | (go_at_call 73; (first | (refine (kR.out _ hc).mono ?_; rintro e wa ⟨XA, xc, YA, yc, rfl, SX, SY, hba, fX, fY⟩; replace hc := hc.trans (hba.mono hc.size); clear hba) | (refine (kR.out _ (hc.alloc hc.size _)).mono ?_; rintro e wa ⟨XA, xc, YA, yc, rfl, SX, SY, hba, fX, fY⟩; have bx := (Box.new _ _ _).below hba; (try dsimp only [World.drew] at bx); (obtain ⟨y0, y1, y2⟩ := bx.c3; have g0 := bx.frozen 0; have g1' := bx.frozen 1; have g2' := bx.frozen 2); have hbl := hc.size; (try dsimp only [World.drew] at hbl); have fX2 : ∀ ad, XA = some ad → wr.heap.size + 1 ≤ ad.block := (fun ad h => Nat.le_trans (Nat.le_of_eq (Array.size_push (xs := wr.heap) _).symm) (fX ad h)); have fY2 : ∀ ad, YA = some ad → wr.heap.size + 1 ≤ ad.block := (fun ad h => Nat.le_trans (Nat.le_of_eq (Array.size_push (xs := wr.heap) _).symm) (fY ad h)); replace hc := (hc.alloc hc.size _).trans (hba.mono (hc.alloc hc.size _).size); clear hba))))
                all_goals
                  go_wp2_with fail
                  go_meet
                  case rel => first
                    | exact ⟨_, _, XA, xc, YA, yc, rfl, rfl, rfl, hbl, bx.set3, sl_set3 SX (fun ad h => by have := fX2 ad h; omega), sl_set3 SY (fun ad h => by have := fY2 ad h; omega), below_set3 hc hbl, fun ad h => by have := fX2 ad h; omega, fun ad h => by have := fY2 ad h; omega⟩
                    | exact ⟨_, _, XA, xc, YA, yc, rfl, rfl, rfl, hc.size, Box.new _ _ _, (SX.alloc (Nat.le_refl _) _).more (by simp), (SY.alloc (Nat.le_refl _) _).more (by simp), hc.alloc hc.size _, fX, fY⟩
              case rest =>
                obtain ⟨wo, bb, XA, xc, YA, yc, rfl, rfl, rfl, hbb, bx, SX, SY, hco, fX, fY⟩ := hcut
                have hBo := hBq.trans (hco.mono hBq.size)
                have brO := br.below hco
                have rbO := rb.below hco
                have hrkO : rk + 1 ≤ wo.heap.size := Nat.le_trans hrk hco.size
                obtain ⟨ip, hip, hz0, hz1, hz2⟩ := info_parts pairInfo
                have Hip := Lib.hid hip; have Hzp0 := Lib.hid hz0; have Hzp1 := Lib.hid hz1; have Hzp2 := Lib.hid hz2
                obtain ⟨il, hil, hw0, hw1, hw2⟩ := info_parts loadInfo
                have Hil := Lib.hid hil; have Hzl0 := Lib.hid hw0; have Hzl1 := Lib.hid hw1; have Hzl2 := Lib.hid hw2
                clear hip hz0 hz1 hz2 hil hw0 hw1 hw2
                have hne : bb ≠ rk := by omega
                have hne' : rk ≠ bb := by omega
                have vlt : ∀ g, vP.ownBlock = some g → g < wr.heap.size := fun g h => (rb.p.lt g h).2
                have wlt : ∀ g, vL.ownBlock = some g → g < wr.heap.size := fun g h => (rb.l.lt g h).2
                have FPX := Lib.hid vlt; have FPY := Lib.hid wlt; have FXX := Lib.hid fX; have FYY := Lib.hid fY
                obtain ⟨y0, y1, y2⟩ := rbO.box.c3
                obtain ⟨o0, o1, o2⟩ := bx.c3
                clear br rb vlt wlt fX fY kR hel
                go_wp2_with (first | (at_builtin; refine wpList_append_sl _ (w0 := _) (cell := p5cell) rfl _ _ _ rfl (rk + 1) (rk + 1) 68 il _ 40 Tryz.underlying27 Hil.out Hzl0.out Hzl1.out Hzl2.out rfl (by decide) vL ls.length ls rfl rb1.l _ YA yc LL rfl SY1 (fun y j => p5_one y j) (by unfold maxLen; omega) (by omega) hrk1 (Nat.le_refl _) (Below.refl _ _) ?_; intro v2 w2x own2 B2 g2x; have b2 := rb1.box.grown g2x (rb1.box.ne_own (by decide) rb1.l); obtain ⟨A8, c8, e8, -, -⟩ := own_sliceC (by decide) own2; obtain ⟨n8, hn8⟩ : ∃ n, (ls ++ LL).length = n := ⟨_, rfl⟩; rw [hn8] at e8; subst e8; clear hn8; clear y0 y1 y2 o0 o1 o2 f9; obtain ⟨y0, y1, y2⟩ := b2.c3; have f9 := b2.frozen 1) | (at_builtin; refine wpList_append_sl _ (w0 := wo) (cell := p5cell) rfl _ _ _ rfl (rk + 1) (rk + 1) 66 ip _ 40 Tryz.underlying26 Hip.out Hzp0.out Hzp1.out Hzp2.out rfl (by decide) vP ps.length ps rfl rbO.p wo.heap.size XA xc PP rfl SX (fun y j => p5_one y j) (by unfold maxLen; omega) (by omega) hrkO (Nat.le_refl _) (Below.refl _ _) ?_; intro v1 w1 own1 B1 g1x; have b1 := rbO.box.grown g1x (rbO.box.ne_own (by decide) rbO.p); obtain ⟨A9, c9, e9, -, -⟩ := own_sliceC (by decide) own1; obtain ⟨n9, hn9⟩ : ∃ n, (ps ++ PP).length = n := ⟨_, rfl⟩; rw [hn9] at e9; subst e9; clear hn9; have rb1 := rbO.addP (qs := PP) (Nat.lt_succ_self _) own1 List.length_append.symm g1x; have SY1 := sl_set1 (b := rk) (i := 0) (u := .slice A9 n9 c9) (SY.grownFar g1x (fun ad h _ e => by have h1 := FYY.out ad h; have h2 := FPX.out _ e; omega)) (fun ad h => by have := FYY.out ad h; omega); have hrk1 : rk + 1 ≤ (w1.setCell ⟨rk, 0, none⟩ (.slice A9 n9 c9)).heap.size := (by simpa using Nat.le_trans hrkO g1x.size); clear y0 y1 y2 o0 o1 o2; obtain ⟨y0, y1, y2⟩ := b1.c3; have f9 := b1.frozen 0; have x1x := bx.grown g1x (bx.ne_own (by decide) rbO.p); obtain ⟨o0, o1, o2⟩ := x1x.c3))
                have rb2 := rb1.addL (qs := LL) (Nat.lt_succ_self _) own2 List.length_append.symm g2x
                have hs2 : rk + 1 ≤ w2x.heap.size := Nat.le_trans hrk1 g2x.size
                have br2 := (((brO.belowB B1 (by omega) (by omega)).set_rules rk 0 (by omega) (by omega) (.slice A9 n9 c9)).belowB B2 (by omega) (by omega)).set_rules rk 1 (by omega) (by omega) (.slice A8 n8 c8)
                have hB2 := (((hBo.trans (B1.mono (by omega))).setCell (p := ⟨rk, 0, none⟩) (by dsimp only; omega) (.slice A9 n9 c9)).trans (B2.mono (by omega))).setCell (p := ⟨rk, 1, none⟩) (by dsimp only; omega) (.slice A8 n8 c8)
                go_wp2_with fail
                go_roundw
                case rel => exact ⟨c + 1, ps ++ PP, ls ++ LL, _, _, by omega, hlt2, by go_num, hB2, br2, rb2, by simpa using hs2, HPN, HLN2⟩
                case measure => simp [intOf]; omega
            · obtain rfl : c = es.length := by omega
              have HPE : Hid (ps ++ M.bP St.id (M.forb W H G P) (M.chLo b) (M.chHi b) (ss.drop (m + 1)) = M.bP St.id (M.forb W H G P) (M.chLo b) (M.chHi b) ss) := Lib.hid (by have := HPQ.out; rwa [List.drop_eq_nil_of_le (by rw [HLN.out]; exact Nat.le_refl _), List.flatMap_nil, List.nil_append] at this)
              have HLE : Hid (ls ++ M.bL St.id (M.forb W H G P) (M.ls0 W H G P) (M.chLo b) (M.chHi b) (ss.drop (m + 1)) = M.bL St.id (M.forb W H G P) (M.ls0 W H G P) (M.chLo b) (M.chHi b) ss) := Lib.hid (by have := HLQ.out; rwa [List.drop_eq_nil_of_le (by rw [HLN.out]; exact Nat.le_refl _), List.flatMap_nil, List.nil_append] at this)
              clear HPQ HLQ
              go_wp2_with fail
              go_roundw
              case rel => exact ⟨m + 1, ps, ls, vP, vL, hlt, by go_num, hBq, br, rb, hrk, HPE, HLE⟩
              case measure => simp [intOf]; omega
        · obtain rfl : m = es.length := by omega
          have HPE : Hid (ps = M.bP St.id (M.forb W H G P) (M.chLo b) (M.chHi b) ss) := Lib.hid (by have := HPQ.out; rwa [List.drop_eq_nil_of_le (by rw [HLN.out]; exact Nat.le_refl _), M.bP, List.append_nil] at this)
          have HLE : Hid (ls = M.bL St.id (M.forb W H G P) (M.ls0 W H G P) (M.chLo b) (M.chHi b) ss) := Lib.hid (by have := HLQ.out; rwa [List.drop_eq_nil_of_le (by rw [HLN.out]; exact Nat.le_refl _), M.bL, List.append_nil] at this)
          clear HPQ HLQ
          have hls48 : ls.length ≤ 48 := by rw [HLE.out]; exact HBL.out
          have hps48 : ps.length ≤ 48 := by rw [HPE.out]; exact HBP.out
          have HS1 : Hid (M.srt5 ps = M.bP St.id (M.forb W H G P) (M.chLo b) (M.chHi b) ss) := Lib.hid (by rw [HPE.out]; exact M.bP_sorted HRS.out (M.srt5_perm _) (M.srt5_sorted _))
          have HS2 : Hid (M.srt5 ls = M.rL St.id (M.forb W H G P) (M.ls0 W H G P) (M.chLo b) (M.chHi b) ss) := Lib.hid (by rw [HLE.out]; exact M.bL_sorted (fun s t => M.forb_sym W H G P s t) HRS.out (M.srt5_perm _) (M.srt5_sorted _))
          obtain ⟨y0, y1, y2⟩ := rb.box.c3
          have kS := sortPairs_ok (rk + 1) vP ps wr rb.p (by omega)
          go_wp2_with fail
          clear y0 y1 y2
          refine kS.mono ?_
          rintro e w6 ⟨rfl, ho6, hg6⟩
          have hb6 := own_base_below rb.p hg6 hrk
          replace rb := rb.sortP ho6 hg6
          replace br := br.belowB hb6 (by omega) (by omega)
          have hB6 := hBq.trans (hb6.mono (by omega))
          have hrk6 : rk + 1 ≤ w6.heap.size := Nat.le_trans hrk hb6.size
          clear kS ho6 hg6 hb6 hBq hrk
          obtain ⟨y0, y1, y2⟩ := rb.box.c3
          have kS := sortLoads_ok (rk + 1) vL ls w6 rb.l (by omega)
          go_wp2_with fail
          clear y0 y1 y2
          refine kS.mono ?_
          rintro e w7 ⟨rfl, ho7, hg7⟩
          have hb7 := own_base_below rb.l hg7 hrk6
          replace rb := rb.sortL ho7 hg7
          replace br := br.belowB hb7 (by omega) (by omega)
          have hB7 := hB6.trans (hb7.mono (by omega))
          have hrk7 : rk + 1 ≤ w7.heap.size := Nat.le_trans hrk6 hb7.size
          clear kS ho7 hg7 hb7 hB6 hrk6
          have rc := rb.toC
          rw [HS1.out, HS2.out] at rc
          clear rb HS1 HS2 HPE HLE hls48 hps48
          have HBR : Hid ((M.rL St.id (M.forb W H G P) (M.ls0 W H G P) (M.chLo b) (M.chHi b) ss).length ≤ 16) := Lib.hid (Nat.le_trans (M.rL_len ss) (by rw [HLN.out]; exact Nat.mul_le_mul hn hn))
          have HBC : Hid (∀ k (hk : k < ts.length), M.loaded (M.rL St.id (M.forb W H G P) (M.ls0 W H G P) (M.chLo b) (M.chHi b) ss) ts[k].s.id = decide (M.rowL St.id (M.forb W H G P) (M.ls0 W H G P) (M.chLo b) (M.chHi b) ss ts[k].s ≠ [])) := Lib.hid (fun k hk => M.rL_any HRS.out (by
            have := HLS.out k hk
            exact List.mem_of_mem_drop (by rw [this]; exact List.mem_cons_self)))
          have HQB : Hid (∀ k (hk : k < ts.length) (hk2 : k < qs.length), 0 ≤ qs[k] ∧ qs[k] ≤ 100000000000) := Lib.hid (fun k hk hk2 => by
            rw [HQS.out k hk hk2]
            exact M.totl_bd HT6.out (Nat.le_trans M.area_len (Nat.le_trans HWH.out (by decide))))
          obtain ⟨ic, hic, hz0, hz1, hz2⟩ := info_parts capInfo
          have Hic := Lib.hid hic; have Hzc0 := Lib.hid hz0; have Hzc1 := Lib.hid hz1; have Hzc2 := Lib.hid hz2
          clear hic hz0 hz1 hz2
          have hmf := hmfA
          go_wp2_with fail
          go_loopw [23, 24, 25, 26, 140] (fun _ _ _ _ i wq => ∃ (k : Nat) (cs : List P4) (vC : Value), k ≤ es.length ∧ i = .int .i64 k ∧ Below V.heap.size V wq ∧ BR V es.length wq g1 g2 ts qs ∧ RC wq (rk + 1) rk (M.bP St.id (M.forb W H G P) (M.chLo b) (M.chHi b) ss) (M.rL St.id (M.forb W H G P) (M.ls0 W H G P) (M.chLo b) (M.chHi b) ss) cs vP vL vC ∧ rk + 1 ≤ wq.heap.size ∧ cs.length ≤ k ∧ Hid (cs ++ (ss.drop k).flatMap (M.cap1 St.id (M.forb W H G P) (M.ls0 W H G P) (M.chLo b) (M.chHi b) (M.ppl W H G P) ss) = M.bC St.id (M.forb W H G P) (M.ls0 W H G P) (M.chLo b) (M.chHi b) (M.ppl W H G P) ss)) (fun _ _ _ _ i _ => es.length - (intOf i).toNat)
          case atStart => exact ⟨0, [], _, Nat.zero_le _, rfl, hB7, br, rc, hrk7, Nat.zero_le _, Lib.hid rfl⟩
          case round =>
            clear br rc hB7 hrk7
            obtain ⟨k, cs, vC, hk, rfl, hBq, br, rc, hrk, hcl, HCQ⟩ := hrel
            by_cases hlt : k < es.length
            · have hkt : k < ts.length := by omega
              have hkq : k < qs.length := by omega
              have x0 : (0 : Int) ≤ (k : Int) := by omega
              have x1 : (k : Int) < (es.length : Int) := by omega
              have HD := HLS.out k hkt
              have HLD := Lib.hid (HBC.out k hkt)
              have HCY : Hid (M.rowL St.id (M.forb W H G P) (M.ls0 W H G P) (M.chLo b) (M.chHi b) ss ts[k].s ≠ [] → (cs ++ [⟨ts[k].s.id, 10 * qs[k] / 1000, M.chLo b, M.chHi b⟩]) ++ (ss.drop (k + 1)).flatMap (M.cap1 St.id (M.forb W H G P) (M.ls0 W H G P) (M.chLo b) (M.chHi b) (M.ppl W H G P) ss) = M.bC St.id (M.forb W H G P) (M.ls0 W H G P) (M.chLo b) (M.chHi b) (M.ppl W H G P) ss) := Lib.hid (fun h => by rw [← HCQ.out, HD, List.flatMap_cons, M.cap1, if_neg h, HQS.out k hkt hkq]; simp)
              have HCN : Hid (¬ M.rowL St.id (M.forb W H G P) (M.ls0 W H G P) (M.chLo b) (M.chHi b) ss ts[k].s ≠ [] → cs ++ (ss.drop (k + 1)).flatMap (M.cap1 St.id (M.forb W H G P) (M.ls0 W H G P) (M.chLo b) (M.chHi b) (M.ppl W H G P) ss) = M.bC St.id (M.forb W H G P) (M.ls0 W H G P) (M.chLo b) (M.chHi b) (M.ppl W H G P) ss) := Lib.hid (fun h => by rw [← HCQ.out, HD, List.flatMap_cons, M.cap1, if_pos (Classical.not_not.1 h)]; rfl)
              clear HD HCQ
              obtain ⟨d0, d1, d2, d3, d4, d5, d6, d7⟩ := br.ld8 hkt
              obtain ⟨U, HU, u0, hBU, -⟩ := boxes1 wr (stc ts[k].s ts[k].A ts[k].c) 40
              have brU := br.below hBU
              have rcU := rc.below hBU
              have BU := hBq.trans (hBU.mono hBq.size)
              obtain ⟨AL, lcc, eL, -, SL⟩ := own_sliceC (by decide) rcU.l
              have kI := contLoads_ok AL lcc (M.rL St.id (M.forb W H G P) (M.ls0 W H G P) (M.chLo b) (M.chHi b) ss) wr.heap.size (stc ts[k].s ts[k].A ts[k].c) ts[k].s.id U SL u0 rfl (Nat.le_trans HBR.out (by decide))
              rw [HLD.out] at kI
              have hU := HU.out
              obtain ⟨y0, y1, y2⟩ := rcU.box.c3
              rw [eL] at y1
              obtain ⟨e0, -, -, -, -, -, -, -⟩ := u0.c8
              by_cases hld : M.rowL St.id (M.forb W H G P) (M.ls0 W H G P) (M.chLo b) (M.chHi b) ss ts[k].s ≠ []
              · rw [decide_eq_true hld] at kI
                have HN := Lib.hid (HCY.out hld)
                clear hld eL br rc
                go_wp2_with fail
                unfold itv at kI
                clear hU d0 d1 d2 d3 d4 d5 d6 d7 y0 y1 y2 e0
                refine kI.mono ?_
                rintro e w8 ⟨rfl, hb8⟩
                have br8 := brU.below hb8
                have rc8 := rcU.below hb8
                have B8 := BU.trans (hb8.mono BU.size)
                have hrk8 : rk + 1 ≤ w8.heap.size := Nat.le_trans (Nat.le_trans hrk hBU.size) hb8.size
                have e0 : w8.cell? ⟨wr.heap.size, 0, none⟩ = some (.int .i64 ts[k].s.id) := (u0.below hb8).c8.1
                obtain ⟨q0, -⟩ := br8.pp_at hkq
                obtain ⟨hq1, hq2⟩ := HQB.out k hkt hkq
                obtain ⟨y0, y1, y2⟩ := rc8.box.c3
                have HQ := Lib.hid (rfl : 10 * qs[k] / 1000 = 10 * qs[k] / 1000)
                have hownC := rc8.c
                clear brU rcU kI
                go_wp2_with (at_builtin; refine wpList_push (w0 := w8) (cell := p4cell) (y := (⟨ts[k].s.id, 10 * qs[k] / 1000, M.chLo b, M.chHi b⟩ : P4)) rfl _ _ _ rfl (rk + 1) (rk + 1) 71 ic _ 32 Tryz.underlying28 Hic.out Hzc0.out Hzc1.out Hzc2.out rfl (by decide) vC cs.length cs rfl hownC _ _ (by rfl) _ rfl (p4_one _) (by unfold maxLen; omega) (by omega) hrk8 (Nat.le_refl _) (Below.refl _ _) ?_; intro v9 w9 hown9 hb9 hg9; have b9 := rc8.box.grown hg9 (rc8.box.ne_own (by decide) hownC); obtain ⟨z0, z1, z2⟩ := b9.c3; have f9 := b9.frozen 2; obtain ⟨g9, cap9, rfl⟩ := ownsRow_succ hown9)
                have rc9 := rc8.addC (qs := [⟨ts[k].s.id, 10 * qs[k] / 1000, M.chLo b, M.chHi b⟩]) (by omega) hown9 (by rw [List.length_append]; rfl) hg9
                have hs9 : rk + 1 ≤ w9.heap.size := Nat.le_trans hrk8 hg9.size
                go_roundw
                case rel => exact ⟨k + 1, _, _, hlt, by go_num, (B8.trans (hb9.mono (by omega))).setCell (p := ⟨rk, 2, none⟩) (by dsimp only; omega) _, (br8.belowB hb9 (by omega) (by omega)).set_rules rk 2 (by omega) (by omega) _, rc9, by simpa using hs9, by rw [List.length_append, List.length_cons, List.length_nil]; omega, HN⟩
                case measure => simp [intOf]; omega
              · rw [decide_eq_false hld] at kI
                have HN := Lib.hid (HCN.out hld)
                clear hld eL br rc
                go_wp2_with fail
                unfold itv at kI
                clear hU d0 d1 d2 d3 d4 d5 d6 d7 y0 y1 y2 e0
                refine kI.mono ?_
                rintro e w8 ⟨rfl, hb8⟩
                have br8 := brU.below hb8
                have rc8 := rcU.below hb8
                have B8 := BU.trans (hb8.mono BU.size)
                have hrk8 : rk + 1 ≤ w8.heap.size := Nat.le_trans (Nat.le_trans hrk hBU.size) hb8.size
                clear brU rcU kI
                go_wp2_with fail
                go_roundw
                case rel => exact ⟨k + 1, _, _, hlt, by go_num, B8, br8, rc8, hrk8, by omega, HN⟩
                case measure => simp [intOf]; omega
            · obtain rfl : k = es.length := by omega
              have HCE : Hid (cs = M.bC St.id (M.forb W H G P) (M.ls0 W H G P) (M.chLo b) (M.chHi b) (M.ppl W H G P) ss) := Lib.hid (by have := HCQ.out; rwa [List.drop_eq_nil_of_le (by rw [HLN.out]; exact Nat.le_refl _), List.flatMap_nil, List.append_nil] at this)
              obtain ⟨A1, d1, e1, hc1, -⟩ := own_sliceC (by decide) rc.p
              obtain ⟨A2, d2, e2, hc2, -⟩ := own_sliceC (by decide) rc.l
              obtain ⟨A3, d3, e3, hc3, -⟩ := own_sliceC (by decide) rc.c
              subst e1 e2 e3
              have hl1 := HBP.out
              have hl2 := HBR.out
              generalize M.bP St.id (M.forb W H G P) (M.chLo b) (M.chHi b) ss = mp at *
              generalize M.rL St.id (M.forb W H G P) (M.ls0 W H G P) (M.chLo b) (M.chHi b) ss = ml at *
              have kF := full_any A1 A2 A3 d1 d2 d3 mp.length ml.length cs.length wr
              rw [show M.full mp.length ml.length cs.length = false by unfold M.full; simp only [Bool.or_eq_false_iff, decide_eq_false_iff_not]; omega] at kF
              obtain ⟨y0, y1, y2⟩ := rc.box.c3
              go_wp2_with fail
              clear y0 y1 y2
              refine kF.mono ?_
              rintro e w8 ⟨rfl, hb8⟩
              have B8 := hBq.trans (hb8.mono (by omega))
              have xr8 := xr.below B8
              replace rc := rc.below hb8
              have BW := after_ hB B8
              obtain ⟨r0, r1, r2⟩ := xr8.c3
              obtain ⟨y0, y1, y2⟩ := rc.box.c3
              have f0 := xr8.frozen 0
              have f1 := xr8.frozen 1
              have f2 := xr8.frozen 2
              go_wp2_with fail
              obtain ⟨z0, z1, z2⟩ := (xr8.set3 (u := .slice A1 mp.length d1) (v := .slice A2 ml.length d2) (t := .slice A3 cs.length d3)).c3
              have ro : Ro3 w8 (rk + 1) (.slice A1 mp.length d1) (.slice A2 ml.length d2) (.slice A3 cs.length d3) (mp, ml, cs) := ⟨rc.p, rc.l, rc.c⟩
              have ro2 := ro.set3 (u := .slice A1 mp.length d1) (v := .slice A2 ml.length d2) (t := .slice A3 cs.length d3) xr8
              obtain ⟨A1', d1', A2', d2', A3', d3', e1, e2, e3, rw2, -⟩ := ro2.out
              cases e1; cases e2; cases e3
              refine bodyPost_ret (v := .tuple #[ruv A1 mp.length d1 A2 ml.length d2 A3 cs.length d3, .int .i64 0]) ?_ rfl (RetR.eq (r := ((mp, ml, cs), 0)) (r' := ((M.gP W H G P b (es.map (·.s)), M.gL W H G P b (es.map (·.s)), M.gC W H G P b (es.map (·.s))), 0)) ⟨A1, d1, A2, d2, A3, d3, rfl, rw2, ⟨hc1, hc2, hc3⟩, below_set3 BW (by omega), ro2.far (by have := hB.size; omega)⟩ (by rw [HGE.out, ← HCE.out]))
              simp [results, Tryz.results24, go_sem, z0, z1, z2]
end Go.Proofs.YtciolgmljpamlaaGreatDoor
end

section
namespace Go.Proofs.YtciolgmljpamlaaGreatDoor
open Go Go.RowKit
set_option maxRecDepth 100000
theorem mk9 (w : World) : (Instr.makeSlice 22 (.int .i64 9) (.int .i64 9)).run Tryz.prog w = .ok (.slice (some ⟨w.heap.size, 0, none⟩) 9 9) (w.alloc (.cells #[.int .i64 0, .int .i64 0, .int .i64 0, .int .i64 0, .int .i64 0, .int .i64 0, .int .i64 0, .int .i64 0, .int .i64 0] 3)) := by
 obtain ⟨i0, hi, hz0, hz1, hz2⟩ := info_parts intInfo
 have h := run_make (P := Tryz.prog) w 22 3 i0 _ Tryz.underlying22 hi hz0 .i64 .i64 9 9 (by decide) (by decide) (by rw [hz2]; decide) (by decide)
 rw [hz1, show madeCells (Value.int .i64 0).cells (Int.toNat 9 * 1) = #[.int .i64 0, .int .i64 0, .int .i64 0, .int .i64 0, .int .i64 0, .int .i64 0, .int .i64 0, .int .i64 0, .int .i64 0] from Array.ext' ((made_flat (cell := icell) (size := 1) (x0 := (0 : Int)) (by decide) (Value.int .i64 0).cells rfl 9).trans rfl)] at h
 exact h
theorem mk16 (w : World) : (Instr.makeSlice 22 (.int .i64 16) (.int .i64 16)).run Tryz.prog w = .ok (.slice (some ⟨w.heap.size, 0, none⟩) 16 16) (w.alloc (.cells #[.int .i64 0, .int .i64 0, .int .i64 0, .int .i64 0, .int .i64 0, .int .i64 0, .int .i64 0, .int .i64 0, .int .i64 0, .int .i64 0, .int .i64 0, .int .i64 0, .int .i64 0, .int .i64 0, .int .i64 0, .int .i64 0] 3)) := by
 obtain ⟨i0, hi, hz0, hz1, hz2⟩ := info_parts intInfo
 have h := run_make (P := Tryz.prog) w 22 3 i0 _ Tryz.underlying22 hi hz0 .i64 .i64 16 16 (by decide) (by decide) (by rw [hz2]; decide) (by decide)
 rw [hz1, show madeCells (Value.int .i64 0).cells (Int.toNat 16 * 1) = #[.int .i64 0, .int .i64 0, .int .i64 0, .int .i64 0, .int .i64 0, .int .i64 0, .int .i64 0, .int .i64 0, .int .i64 0, .int .i64 0, .int .i64 0, .int .i64 0, .int .i64 0, .int .i64 0, .int .i64 0, .int .i64 0] from Array.ext' ((made_flat (cell := icell) (size := 1) (x0 := (0 : Int)) (by decide) (Value.int .i64 0).cells rfl 16).trans rfl)] at h
 exact h
def M.pP : List Int := [199, 199, 199, 199, 199, 5, 0, 0, 0]
def M.pG : List Int := [0, 0, 0, 0, 0, 0, 0, 0, 0]
def M.mk16 (id x pw : Int) : St := ⟨id, x, 0, pw, 20, [0, 0, 0, 0, 0, 0, 0, 0, 0, 0, 0, 0, 0, 0, 0, 0], 3, 20⟩
set_option maxHeartbeats 4000000 in
theorem at16_ok (id x pw : Int) (w : World) : Calls Tryz.prog 54 #[.int .i64 id, .int .i64 x, .int .i64 pw] w fun e w' => ∃ A c, e = .returned (stv (M.mk16 id x pw) A c) ∧ Sl 1 icell w' w'.heap.size A (M.mk16 id x pw).pat ∧ Below w.heap.size w w' := by
 have hm := mk16
 go_enter Tryz.func54, Tryz.ntmps54
 go_wp2_with fail
 obtain ⟨W, HW, y0, y1, hB, -⟩ := boxes2 w #[.int .i64 id, .int .i64 x, .int .i64 0, .int .i64 pw, .int .i64 20, .slice (some ⟨w.heap.size + 1, 0, none⟩) 16 16, .int .i64 3, .int .i64 20] 40 #[.int .i64 0, .int .i64 0, .int .i64 0, .int .i64 0, .int .i64 0, .int .i64 0, .int .i64 0, .int .i64 0, .int .i64 0, .int .i64 0, .int .i64 0, .int .i64 0, .int .i64 0, .int .i64 0, .int .i64 0, .int .i64 0] 3
 rw [HW.out]
 obtain ⟨d0, d1, d2, d3, d4, d5, d6, d7⟩ := y0.c8
 refine bodyPost_ret (v := stv (M.mk16 id x pw) (some ⟨w.heap.size + 1, 0, none⟩) 16) ?_ rfl ⟨_, _, rfl, Sl.of_box y1 rfl, hB⟩
 simp [results, Tryz.results54, go_sem, d0, d1, d2, d3, d4, d5, d6, d7, M.mk16]
set_option maxHeartbeats 16000000 in
theorem row16_ok (w : World) : Calls Tryz.prog 56 #[] w fun e w' => ∃ GA gc PA pc, e = .returned (tv 9 1 GA PA 9 gc 9 pc) ∧ Sl 1 icell w' w'.heap.size GA M.pG ∧ Sl 1 icell w' w'.heap.size PA M.pP ∧ Below w.heap.size w w' := by
 have hm := mk9
 go_enter Tryz.func56, Tryz.ntmps56
 go_wp2_with fail
 go_region_with fail
 all_goals
  go_wp2_with fail
  refine wp_loop_rounds 6 ?_
  iterate 6
   rw [rounds_succ]
   go_wp2_with fail
  first
  | (obtain ⟨W, HW, y0, y1, y2, y3, hB, -⟩ := boxes4 w #[.int .i64 9, .int .i64 1, .slice (some ⟨w.heap.size + 1, 0, none⟩) 9 9, .slice (some ⟨w.heap.size + 1 + 1, 0, none⟩) 9 9] 24 #[.int .i64 0, .int .i64 0, .int .i64 0, .int .i64 0, .int .i64 0, .int .i64 0, .int .i64 0, .int .i64 0, .int .i64 0] 3 #[.int .i64 199, .int .i64 199, .int .i64 199, .int .i64 199, .int .i64 199, .int .i64 5, .int .i64 0, .int .i64 0, .int .i64 0] 3 #[.int .i64 9, .int .i64 1, .slice (some ⟨w.heap.size + 1, 0, none⟩) 9 9, .slice (some ⟨w.heap.size + 1 + 1, 0, none⟩) 9 9] 24; rw [HW.out]; obtain ⟨z0, z1, z2, z3⟩ := y0.c4; refine bodyPost_ret (v := tv 9 1 (some ⟨w.heap.size + 1, 0, none⟩) (some ⟨w.heap.size + 1 + 1, 0, none⟩) 9 9 9 9) ?_ rfl ⟨_, _, _, _, rfl, Sl.of_box (w := W) y1 rfl, Sl.of_box (w := W) y2 rfl, hB.drew⟩; simp [results, Tryz.results56, go_sem, z0, z1, z2, z3])
  | (obtain ⟨W, HW, y0, y1, y2, y3, hB, -⟩ := boxes4 w #[.int .i64 9, .int .i64 1, .slice (some ⟨w.heap.size + 1, 0, none⟩) 9 9, .slice (some ⟨w.heap.size + 1 + 1 + 1, 0, none⟩) 9 9] 24 #[.int .i64 0, .int .i64 0, .int .i64 0, .int .i64 0, .int .i64 0, .int .i64 0, .int .i64 0, .int .i64 0, .int .i64 0] 3 #[.int .i64 9, .int .i64 1, .slice (some ⟨w.heap.size + 1, 0, none⟩) 9 9, .slice (some ⟨w.heap.size + 1 + 1 + 1, 0, none⟩) 9 9] 24 #[.int .i64 199, .int .i64 199, .int .i64 199, .int .i64 199, .int .i64 199, .int .i64 5, .int .i64 0, .int .i64 0, .int .i64 0] 3; rw [HW.out]; obtain ⟨z0, z1, z2, z3⟩ := y0.c4; refine bodyPost_ret (v := tv 9 1 (some ⟨w.heap.size + 1, 0, none⟩) (some ⟨w.heap.size + 1 + 1 + 1, 0, none⟩) 9 9 9 9) ?_ rfl ⟨_, _, _, _, rfl, Sl.of_box (w := W) y1 rfl, Sl.of_box (w := W) y3 rfl, hB.drew⟩; simp [results, Tryz.results56, go_sem, z0, z1, z2, z3])
  | (obtain ⟨W, HW, y0, y1, y2, y3, hB, -⟩ := boxes4 w #[.int .i64 9, .int .i64 1, .slice (some ⟨w.heap.size + 1 + 1, 0, none⟩) 9 9, .slice (some ⟨w.heap.size + 1, 0, none⟩) 9 9] 24 #[.int .i64 199, .int .i64 199, .int .i64 199, .int .i64 199, .int .i64 199, .int .i64 5, .int .i64 0, .int .i64 0, .int .i64 0] 3 #[.int .i64 0, .int .i64 0, .int .i64 0, .int .i64 0, .int .i64 0, .int .i64 0, .int .i64 0, .int .i64 0, .int .i64 0] 3 #[.int .i64 9, .int .i64 1, .slice (some ⟨w.heap.size + 1 + 1, 0, none⟩) 9 9, .slice (some ⟨w.heap.size + 1, 0, none⟩) 9 9] 24; rw [HW.out]; obtain ⟨z0, z1, z2, z3⟩ := y0.c4; refine bodyPost_ret (v := tv 9 1 (some ⟨w.heap.size + 1 + 1, 0, none⟩) (some ⟨w.heap.size + 1, 0, none⟩) 9 9 9 9) ?_ rfl ⟨_, _, _, _, rfl, Sl.of_box (w := W) y2 rfl, Sl.of_box (w := W) y1 rfl, hB.drew⟩; simp [results, Tryz.results56, go_sem, z0, z1, z2, z3])
  | (obtain ⟨W, HW, y0, y1, y2, y3, hB, -⟩ := boxes4 w #[.int .i64 9, .int .i64 1, .slice (some ⟨w.heap.size + 1 + 1 + 1, 0, none⟩) 9 9, .slice (some ⟨w.heap.size + 1, 0, none⟩) 9 9] 24 #[.int .i64 199, .int .i64 199, .int .i64 199, .int .i64 199, .int .i64 199, .int .i64 5, .int .i64 0, .int .i64 0, .int .i64 0] 3 #[.int .i64 9, .int .i64 1, .slice (some ⟨w.heap.size + 1 + 1 + 1, 0, none⟩) 9 9, .slice (some ⟨w.heap.size + 1, 0, none⟩) 9 9] 24 #[.int .i64 0, .int .i64 0, .int .i64 0, .int .i64 0, .int .i64 0, .int .i64 0, .int .i64 0, .int .i64 0, .int .i64 0] 3; rw [HW.out]; obtain ⟨z0, z1, z2, z3⟩ := y0.c4; refine bodyPost_ret (v := tv 9 1 (some ⟨w.heap.size + 1 + 1 + 1, 0, none⟩) (some ⟨w.heap.size + 1, 0, none⟩) 9 9 9 9) ?_ rfl ⟨_, _, _, _, rfl, Sl.of_box (w := W) y3 rfl, Sl.of_box (w := W) y1 rfl, hB.drew⟩; simp [results, Tryz.results56, go_sem, z0, z1, z2, z3])
  | (obtain ⟨W, HW, y0, y1, y2, y3, hB, -⟩ := boxes4 w #[.int .i64 9, .int .i64 1, .slice (some ⟨w.heap.size + 1 + 1, 0, none⟩) 9 9, .slice (some ⟨w.heap.size + 1 + 1 + 1, 0, none⟩) 9 9] 24 #[.int .i64 9, .int .i64 1, .slice (some ⟨w.heap.size + 1 + 1, 0, none⟩) 9 9, .slice (some ⟨w.heap.size + 1 + 1 + 1, 0, none⟩) 9 9] 24 #[.int .i64 0, .int .i64 0, .int .i64 0, .int .i64 0, .int .i64 0, .int .i64 0, .int .i64 0, .int .i64 0, .int .i64 0] 3 #[.int .i64 199, .int .i64 199, .int .i64 199, .int .i64 199, .int .i64 199, .int .i64 5, .int .i64 0, .int .i64 0, .int .i64 0] 3; rw [HW.out]; obtain ⟨z0, z1, z2, z3⟩ := y0.c4; refine bodyPost_ret (v := tv 9 1 (some ⟨w.heap.size + 1 + 1, 0, none⟩) (some ⟨w.heap.size + 1 + 1 + 1, 0, none⟩) 9 9 9 9) ?_ rfl ⟨_, _, _, _, rfl, Sl.of_box (w := W) y2 rfl, Sl.of_box (w := W) y3 rfl, hB.drew⟩; simp [results, Tryz.results56, go_sem, z0, z1, z2, z3])
  | (obtain ⟨W, HW, y0, y1, y2, y3, hB, -⟩ := boxes4 w #[.int .i64 9, .int .i64 1, .slice (some ⟨w.heap.size + 1 + 1 + 1, 0, none⟩) 9 9, .slice (some ⟨w.heap.size + 1 + 1, 0, none⟩) 9 9] 24 #[.int .i64 9, .int .i64 1, .slice (some ⟨w.heap.size + 1 + 1 + 1, 0, none⟩) 9 9, .slice (some ⟨w.heap.size + 1 + 1, 0, none⟩) 9 9] 24 #[.int .i64 199, .int .i64 199, .int .i64 199, .int .i64 199, .int .i64 199, .int .i64 5, .int .i64 0, .int .i64 0, .int .i64 0] 3 #[.int .i64 0, .int .i64 0, .int .i64 0, .int .i64 0, .int .i64 0, .int .i64 0, .int .i64 0, .int .i64 0, .int .i64 0] 3; rw [HW.out]; obtain ⟨z0, z1, z2, z3⟩ := y0.c4; refine bodyPost_ret (v := tv 9 1 (some ⟨w.heap.size + 1 + 1 + 1, 0, none⟩) (some ⟨w.heap.size + 1 + 1, 0, none⟩) 9 9 9 9) ?_ rfl ⟨_, _, _, _, rfl, Sl.of_box (w := W) y3 rfl, Sl.of_box (w := W) y2 rfl, hB.drew⟩; simp [results, Tryz.results56, go_sem, z0, z1, z2, z3])
end Go.Proofs.YtciolgmljpamlaaGreatDoor
end

section
namespace Go.Proofs.YtciolgmljpamlaaGreatDoor
open Go Go.RowKit
set_option maxRecDepth 100000
set_option maxHeartbeats 8000000 in
theorem cbuild_band (W H : Int) (GA PA : Option Addr) (gc pc gl pl : Nat) (LA : Option Addr) (lc n : Nat) (b : Int) (w : World) (hb : M.chOk b = false) :
    Calls Tryz.prog 24 #[tv W H GA PA gl gc pl pc, .slice LA n lc, .int .i64 b] w (RetR w ([], [], []) 2) := by
  obtain ⟨V, HW, xt, xrx, BW, -⟩ := boxes2 w #[.int .i64 W, .int .i64 H, .slice GA gl gc, .slice PA pl pc] 24 #[.slice none 0 0, .slice none 0 0, .slice none 0 0] 30
  have kC := channels_any b V
  rw [hb] at kC
  have hV := HW.out
  go_enter Tryz.func24, Tryz.ntmps24
  go_wp2_with fail
  clear hV
  refine kC.mono ?_
  rintro e w1 ⟨rfl, rfl⟩
  obtain ⟨r0, r1, r2⟩ := xrx.c3
  have f0 := xrx.frozen 0
  have f1 := xrx.frozen 1
  have f2 := xrx.frozen 2
  go_wp2_with fail
  obtain ⟨z0, z1, z2⟩ := (xrx.set3 (u := .slice none 0 0) (v := .slice none 0 0) (t := .slice none 0 0)).c3
  refine bodyPost_ret (v := .tuple #[ruv none 0 0 none 0 0 none 0 0, .int .i64 2]) ?_ rfl (RetR.none (below_set3 BW (by omega)))
  simp [results, Tryz.results24, go_sem, z0, z1, z2]
set_option maxHeartbeats 8000000 in
theorem cbuild_arg (W H : Int) (GA PA : Option Addr) (gc pc : Nat) (G P : List Int) (LA : Option Addr) (lc : Nat) (es : List SE) (b : Int) (w : World) (ht : Tab w) (hg : Sl 1 icell w w.heap.size GA G) (hp : Sl 1 icell w w.heap.size PA P) (hL : Sl 8 secell w w.heap.size LA es) (hP : Pats w es)
    (hgl : G.length ≤ 9223372036854775807) (hpl' : P.length ≤ 9223372036854775807) (hl : es.length ≤ 9223372036854775807) (hpl : ∀ e ∈ es, e.s.pat.length ≤ 1000) (hb : M.chOk b = true) (hno : ¬ M.cbOk W H G P (es.map (·.s))) :
    Calls Tryz.prog 24 #[tv W H GA PA G.length gc P.length pc, .slice LA es.length lc, .int .i64 b] w (RetR w ([], [], []) 2) := by
  obtain ⟨V, HW, xt, xr, hB, -⟩ := boxes2 w #[.int .i64 W, .int .i64 H, .slice GA G.length gc, .slice PA P.length pc] 24 #[.slice none 0 0, .slice none 0 0, .slice none 0 0] 30
  have kC := channels_any b V
  rw [hb] at kC
  have kB := checkBuild_any W H GA PA gc pc G P LA lc es V (ht.kept hB) ((hg.below hB).more hB.size) ((hp.below hB).more hB.size) ((hL.below hB).more hB.size) (hP.below hB) hgl hpl' hl hpl
  rw [show M.cbR W H G P (es.map (·.s)) = 2 by unfold M.cbR; rw [if_neg hno]] at kB
  obtain ⟨c0, c1, c2, c3⟩ := xt.c4
  have hV := HW.out
  go_enter Tryz.func24, Tryz.ntmps24
  go_wp2_with fail
  clear hV
  refine kC.mono ?_
  rintro e w1 ⟨rfl, rfl⟩
  go_wp2_with fail
  refine kB.mono ?_
  rintro e w2 ⟨rfl, hb2⟩
  have xrx := xr.below hb2
  have BW := after_ hB hb2
  clear kC kB c0 c1 c2 c3
  obtain ⟨r0, r1, r2⟩ := xrx.c3
  have f0 := xrx.frozen 0
  have f1 := xrx.frozen 1
  have f2 := xrx.frozen 2
  go_wp2_with fail
  obtain ⟨z0, z1, z2⟩ := (xrx.set3 (u := .slice none 0 0) (v := .slice none 0 0) (t := .slice none 0 0)).c3
  refine bodyPost_ret (v := .tuple #[ruv none 0 0 none 0 0 none 0 0, .int .i64 2]) ?_ rfl (RetR.none (below_set3 BW (by omega)))
  simp [results, Tryz.results24, go_sem, z0, z1, z2]
theorem heldS {w' : World} {b0 b1 : Nat} {a b : St} {A B : Option Addr} {c d : Nat} (h0 : Box w' b0 (stc a A c) 40) (h1 : Box w' b1 (stc b B d) 40) :
    w'.cell? ⟨b0, 0, none⟩ = some (.int .i64 a.id) ∧ w'.cell? ⟨b0, 1, none⟩ = some (.int .i64 a.x) ∧ w'.cell? ⟨b0, 2, none⟩ = some (.int .i64 a.y) ∧ w'.cell? ⟨b0, 3, none⟩ = some (.int .i64 a.pw) ∧ w'.cell? ⟨b0, 4, none⟩ = some (.int .i64 a.h) ∧ w'.cell? ⟨b0, 5, none⟩ = some (.slice A a.pat.length c) ∧ w'.cell? ⟨b0, 6, none⟩ = some (.int .i64 a.band) ∧ w'.cell? ⟨b0, 7, none⟩ = some (.int .i64 a.ch) ∧ w'.cell? ⟨b1, 0, none⟩ = some (.int .i64 b.id) ∧ w'.cell? ⟨b1, 1, none⟩ = some (.int .i64 b.x) ∧ w'.cell? ⟨b1, 2, none⟩ = some (.int .i64 b.y) ∧ w'.cell? ⟨b1, 3, none⟩ = some (.int .i64 b.pw) ∧ w'.cell? ⟨b1, 4, none⟩ = some (.int .i64 b.h) ∧ w'.cell? ⟨b1, 5, none⟩ = some (.slice B b.pat.length d) ∧ w'.cell? ⟨b1, 6, none⟩ = some (.int .i64 b.band) ∧ w'.cell? ⟨b1, 7, none⟩ = some (.int .i64 b.ch) := by
  obtain ⟨c0, c1, c2, c3, c4, c5, c6, c7⟩ := h0.c8
  obtain ⟨d0, d1, d2, d3, d4, d5, d6, d7⟩ := h1.c8
  exact ⟨c0, c1, c2, c3, c4, c5, c6, c7, d0, d1, d2, d3, d4, d5, d6, d7⟩
set_option maxHeartbeats 16000000 in
theorem forbids16_ok (a b : St) (A B : Option Addr) (c d : Nat) (o : Int) (want : Bool) (w : World) (ht : Tab w) (hS : Sl 1 icell w w.heap.size A a.pat) (hT : Sl 1 icell w w.heap.size B b.pat) (hpa : a.pat.length ≤ 1000) (hpb : b.pat.length ≤ 1000) (hr : M.forbR 9 1 M.pG M.pP a b o = (want, 0)) :
    Calls Tryz.prog 55 #[stv a A c, stv b B d, .int .i64 o, .bool want] w fun e w' => e = .returned (.bool true) ∧ Below w.heap.size w w' := by
  obtain ⟨V, HW, x0, x1, hB, -⟩ := boxes2 w (stc a A c) 40 (stc b B d) 40
  have HR := Lib.hid hr
  clear hr
  have y0 : Box V.drew w.heap.size (stc a A c) 40 := x0
  have y1 : Box V.drew (w.heap.size + 1) (stc b B d) 40 := x1
  have K0 := heldS y0 y1
  have K1 := heldS x0 x1
  have Bd : Below w.heap.size w V.drew := hB.drew
  have kA : ∀ wa, Below V.drew.heap.size V.drew wa → _ := fun wa hba => heldS (y0.below hba) (y1.below hba)
  go_enter Tryz.func55, Tryz.ntmps55
  go_wp2_with fail
  rw [HW.out]
  go_region_held3 (fun w' => w'.cell? ⟨w.heap.size, 0, none⟩ = some (.int .i64 a.id) ∧ w'.cell? ⟨w.heap.size, 1, none⟩ = some (.int .i64 a.x) ∧ w'.cell? ⟨w.heap.size, 2, none⟩ = some (.int .i64 a.y) ∧ w'.cell? ⟨w.heap.size, 3, none⟩ = some (.int .i64 a.pw) ∧ w'.cell? ⟨w.heap.size, 4, none⟩ = some (.int .i64 a.h) ∧ w'.cell? ⟨w.heap.size, 5, none⟩ = some (.slice A a.pat.length c) ∧ w'.cell? ⟨w.heap.size, 6, none⟩ = some (.int .i64 a.band) ∧ w'.cell? ⟨w.heap.size, 7, none⟩ = some (.int .i64 a.ch) ∧ w'.cell? ⟨w.heap.size + 1, 0, none⟩ = some (.int .i64 b.id) ∧ w'.cell? ⟨w.heap.size + 1, 1, none⟩ = some (.int .i64 b.x) ∧ w'.cell? ⟨w.heap.size + 1, 2, none⟩ = some (.int .i64 b.y) ∧ w'.cell? ⟨w.heap.size + 1, 3, none⟩ = some (.int .i64 b.pw) ∧ w'.cell? ⟨w.heap.size + 1, 4, none⟩ = some (.int .i64 b.h) ∧ w'.cell? ⟨w.heap.size + 1, 5, none⟩ = some (.slice B b.pat.length d) ∧ w'.cell? ⟨w.heap.size + 1, 6, none⟩ = some (.int .i64 b.band) ∧ w'.cell? ⟨w.heap.size + 1, 7, none⟩ = some (.int .i64 b.ch)) (first | exact K0 | exact K1 | exact kA _ (by assumption))
    (first
      | (go_at_call 56; ((with_reducible refine (row16_ok _).mono ?_); rintro e wa ⟨GA, gc, PA, pc, rfl, hG, hPq, hba⟩; have Ba := after_ Bd hba; have kk := cforbids_any 9 1 GA PA gc pc M.pG M.pP a b A B c d o wa (ht.kept Ba) hG hPq ((hS.below Ba).more Ba.size) ((hT.below Ba).more Ba.size) (by decide) (by decide) hpa hpb; rw [HR.out] at kk))
      | (go_at_call 21; (refine kk.mono ?_; rintro e wb ⟨rfl, hbb⟩; have hbB := after_ hba hbb)))
  all_goals
    clear kk
    cases want <;> (go_wp2_with fail; go_ret; exact ⟨rfl, after_ Bd hbB⟩)
end Go.Proofs.YtciolgmljpamlaaGreatDoor
end

section
namespace Go.Proofs.YtciolgmljpamlaaGreatDoor
open Go Go.RowKit
set_option maxRecDepth 100000
def M.kA : St := ⟨1, 2, 0, 101, 20, [0, 0, 0, 0, 0, 0, 0, 0, 0, 0, 0, 0, 0, 0, 0, 0], 3, 20⟩
def M.kB : St := ⟨2, 8, 0, 101, 20, [0, 0, 0, 0, 0, 0, 0, 0, 0, 0, 0, 0, 0, 0, 0, 0], 3, 20⟩
def M.kC : St := ⟨3, 8, 0, 82, 20, [0, 0, 0, 0, 0, 0, 0, 0, 0, 0, 0, 0, 0, 0, 0, 0], 3, 20⟩
def M.one : P5 := ⟨1, 2, 0, 14, 51⟩
def M.two : P5 := ⟨1, 2, 0, 2, 6⟩
def M.lone : P5 := ⟨1, 3, 5, 14, 51⟩
def M.cone : P4 := ⟨1, 10, 14, 51⟩
theorem M.k16a : M.forbR 9 1 M.pG M.pP M.kA M.kB 0 = (true, 0) := by decide +kernel
theorem M.k16b : M.forbR 9 1 M.pG M.pP M.kA M.kB 1 = (false, 0) := by decide +kernel
theorem M.k16c : M.forbR 9 1 M.pG M.pP M.kA M.kC 0 = (false, 0) := by decide +kernel
theorem M.k16tv : M.tvalid 9 1 M.pG M.pP = true := by decide +kernel
theorem M.k16oA : M.okS 9 1 M.pG M.pP M.kA = true := by decide +kernel
theorem M.k16oB : M.okS 9 1 M.pG M.pP M.kB = true := by decide +kernel
theorem M.k16oC : M.okS 9 1 M.pG M.pP M.kC = true := by decide +kernel
theorem M.cb2 {x y : St} (hx : M.okS 9 1 M.pG M.pP x = true) (hy : M.okS 9 1 M.pG M.pP y = true) (h : x.id < y.id) : M.cbOk 9 1 M.pG M.pP [x, y] := by
  refine ⟨by simp, M.k16tv, fun k hk => ?_, fun k hk => ?_⟩
  · match k, hk with
    | 0, _ => exact h
  · match k, hk with
    | 0, _ => exact hx
    | 1, _ => exact hy
theorem M.k16ab : M.cbOk 9 1 M.pG M.pP [M.kA, M.kB] := M.cb2 M.k16oA M.k16oB (by decide)
theorem M.k16ac : M.cbOk 9 1 M.pG M.pP [M.kA, M.kC] := M.cb2 M.k16oA M.k16oC (by decide)
theorem M.k16ba : ¬ M.cbOk 9 1 M.pG M.pP [M.kB, M.kA] := fun h => absurd (h.2.2.1 0 (by decide)) (by decide)
theorem M.k16r : (M.gP 9 1 M.pG M.pP 3 [M.kA, M.kB], M.gL 9 1 M.pG M.pP 3 [M.kA, M.kB], M.gC 9 1 M.pG M.pP 3 [M.kA, M.kB]) = ([M.one], [], []) := by decide +kernel
theorem M.k16q : (M.gP 9 1 M.pG M.pP 3 [M.kA, M.kC], M.gL 9 1 M.pG M.pP 3 [M.kA, M.kC], M.gC 9 1 M.pG M.pP 3 [M.kA, M.kC]) = ([], [M.lone], [M.cone]) := by decide +kernel
theorem M.k16j : M.joinR [M.one] [] [] [M.two, M.one] [] [] = (([M.two, M.one], [], []), 0) := by
  have h1 : M.mrg M.cmp5 [M.one] [M.two, M.one] = [M.two, M.one] := by rw [M.mrg_gt (by decide), M.mrg_eq (by decide), M.mrg_nil]
  have h2 : M.mrg M.cmp5 ([] : List P5) [] = [] := M.mrg_nil _ _
  have h3 : M.mrg M.cmp4 ([] : List P4) [] = [] := M.mrg_nil _ _
  rw [M.joinR_of (by decide +kernel) (by decide +kernel) (by rw [h1, h2, h3]; decide +kernel), h1, h2, h3]
theorem M.k16v : M.rvalid [M.two, M.one] [] [] = true := by decide +kernel
theorem M.k16n : M.nbs 2 [M.two, M.one] [] = [1] := by decide +kernel
end Go.Proofs.YtciolgmljpamlaaGreatDoor
end
