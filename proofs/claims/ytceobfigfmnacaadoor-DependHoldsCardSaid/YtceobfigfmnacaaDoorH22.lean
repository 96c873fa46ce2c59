/- A bundle of texts: Gr7, Gr8, Gr9, KnM47, GrD. -/
import Derived.Test.YtceobfigfmnacaaDoorH21
import Derived.Test.YtceobfigfmnacaaDoorH03
import Derived.WalkMore
import Derived.Test.YtceobfigfmnacaaDoorH18
import Derived.Test.YtceobfigfmnacaaDoorH04
section
namespace Go.Proofs.YtceobfigfmnacaaDoor
open Go Go.RowKit
set_option maxRecDepth 100000
def blc (b : Bool) (_ : Nat) : Value := .bool b
theorem blInfo : (Tryd.prog.info? 4).map (fun i => (i.zero, i.size, i.bytes)) = some (some (.bool false), 1, 1) := by kernel_rfl
def dn (m : Nat) (D : List Nat) : List Bool := (List.range m).map fun j => decide (j ∈ D)
theorem dn_len (m : Nat) (D : List Nat) : (dn m D).length = m := by simp [dn]
theorem dn_at {m : Nat} (D : List Nat) {k : Nat} (h : k < (dn m D).length) : (dn m D)[k] = decide (k ∈ D) := by simp [dn]
theorem dn_nil (m : Nat) : List.replicate m false = dn m [] := by unfold dn; simp [List.map_const']
theorem dn_set {m : Nat} (D : List Nat) {p : Nat} : (dn m D).set p true = dn m (D ++ [p]) := by
  apply List.ext_getElem
  · simp [dn_len]
  · intro i h1 h2
    rw [List.getElem_set, dn_at D (by simpa using h1), dn_at (D ++ [p]) h2]
    by_cases e : p = i
    · subst e; simp
    · rw [if_neg e]
      have : ¬ i = p := fun h => e h.symm
      simp [this]
def wts (R : List Nat) (m : Nat) : List Nat := (List.range m).map fun k => Dg.wt R (Dg.ld R k)
theorem wts_len (R : List Nat) (m : Nat) : (wts R m).length = m := by simp [wts]
theorem wts_at (R : List Nat) {m k : Nat} (h : k < (wts R m).length) : (wts R m)[k] = Dg.wt R (Dg.ld R k) := by simp [wts]
theorem LO.slice {W : World} {base : Nat} {v : Value} {ls : List SLc} (h : LO W base v ls) : ∃ A c, v = .slice A ls.length c := by
  rcases h.outer.2 with ⟨rfl, h0⟩ | ⟨g, cap, cur, rfl, _⟩
  · exact ⟨none, 0, by rw [h0]⟩
  · exact ⟨_, _, rfl⟩
theorem own8r {w : World} {base g n : Nat} {cs : List Nat} (h : w.ownsRow base 80 8 (.slice (some ⟨g, 0, none⟩) n n) n (flat 8 bscell cs)) {k : Nat} (hk : k < cs.length) {r : Nat} (hr : cs[k] = r) :
    w.cell? ⟨g, k * 8, none⟩ = some (.int .u64 (Bs.wd r 0 : Nat)) ∧ w.cell? ⟨g, k * 8 + 1, none⟩ = some (.int .u64 (Bs.wd r 1 : Nat)) ∧ w.cell? ⟨g, k * 8 + 2, none⟩ = some (.int .u64 (Bs.wd r 2 : Nat)) ∧ w.cell? ⟨g, k * 8 + 3, none⟩ = some (.int .u64 (Bs.wd r 3 : Nat)) ∧ w.cell? ⟨g, k * 8 + 4, none⟩ = some (.int .u64 (Bs.wd r 4 : Nat)) ∧ w.cell? ⟨g, k * 8 + 5, none⟩ = some (.int .u64 (Bs.wd r 5 : Nat)) ∧ w.cell? ⟨g, k * 8 + 6, none⟩ = some (.int .u64 (Bs.wd r 6 : Nat)) ∧ w.cell? ⟨g, k * 8 + 7, none⟩ = some (.int .u64 (Bs.wd r 7 : Nat)) := by
  subst hr
  have h2 := fun j (hj : j < 8) => own_at h hk hj
  exact ⟨(h2 0 (by decide)).1, (h2 1 (by decide)).1, (h2 2 (by decide)).1, (h2 3 (by decide)).1, (h2 4 (by decide)).1, (h2 5 (by decide)).1, (h2 6 (by decide)).1, (h2 7 (by decide)).1⟩
structure GS (wS W : World) (R : List Nat) (m gW bL gD : Nat) (D : List Nat) (lst : Nat) (vO : Value) (os : List SLc) : Prop where
  bel : Below wS.heap.size wS W
  ow : W.ownsRow wS.heap.size 80 8 (.slice (some ⟨gW, 0, none⟩) m m) m (flat 8 bscell (wts R m))
  bx : Box W bL (bsc lst) 80
  od : W.ownsRow wS.heap.size 4 1 (.slice (some ⟨gD, 0, none⟩) m m) m (flat 1 blc (dn m D))
  oo : W.ownsRow wS.heap.size 39 1 vO os.length (flat 1 slcell os)
section
variable {wS W W' : World} {R : List Nat} {m gW bL gD : Nat} {D : List Nat} {lst : Nat} {vO : Value} {os : List SLc}
theorem GS.next (h : GS wS W R m gW bL gD D lst vO os) (hb : Below W.heap.size W W') : GS wS W' R m gW bL gD D lst vO os :=
  ⟨after_ h.bel hb, own_below h.ow hb, h.bx.below hb, own_below h.od hb, own_below h.oo hb⟩
theorem GS.at (h : GS wS W R m gW bL gD D lst vO os) {k : Nat} (hk : k < m) : W.cell? ⟨gD, k, none⟩ = some (.bool (decide (k ∈ D))) ∧ W.frozen? ⟨gD, k, none⟩ = false := by
  have := own_at (size := 1) (cell := blc) h.od (k := k) (j := 0) (by rw [dn_len]; exact hk) (by decide)
  rw [Nat.mul_one, Nat.add_zero, dn_at] at this
  exact this
theorem GS.setD (h : GS wS W R m gW bL gD D lst vO os) (hs : gW < bL ∧ bL < gD ∧ wS.heap.size ≤ gW) {p : Nat} (hp : p < m) : GS wS (W.setCell ⟨gD, p, none⟩ (.bool true)) R m gW bL gD (D ++ [p]) lst vO os := by
  refine ⟨h.bel.setCell (p := ⟨gD, p, none⟩) (by dsimp only; omega) _, h.ow.kept (grown_set W gD p _) (.inr (fun e => by have e2 : gW = gD := Option.some.inj e; omega)), h.bx.set_other (by dsimp only; omega) _, ?_, h.oo.kept (grown_set W gD p _) (own_ne h.oo h.od (by decide))⟩
  have h3 := own_set (size := 1) (cell := blc) h.od (k := p) (by rw [dn_len]; exact hp) (j := 0) (y := true) (u := .bool true) (by decide) rfl (fun j' h1 h2 => absurd h1 (by omega))
  rw [Nat.mul_one, Nat.add_zero, dn_set] at h3
  exact h3
theorem GS.setL (h : GS wS W R m gW bL gD D lst vO os) (hs : gW < bL ∧ bL < gD ∧ wS.heap.size ≤ gW) {lst' : Nat} {Y : World} (hg : W.grownBy Y (some bL)) (z : Box Y bL (bsc lst') 80) : GS wS Y R m gW bL gD D lst' vO os :=
  ⟨h.bel.grown hg h.bel.size (fun k e => by cases e; omega), h.ow.kept hg (.inr (fun e => by have e2 : gW = bL := Option.some.inj e; omega)), z, h.od.kept hg (.inr (fun e => by have e2 : gD = bL := Option.some.inj e; omega)), h.oo.kept hg (.inr (h.bx.ne_own (by decide) h.oo).symm)⟩
theorem GS.push (h : GS wS W R m gW bL gD D lst vO os) {v' : Value} {s : SLc} (hb : Below wS.heap.size wS W') (ho : W'.ownsRow wS.heap.size 39 1 v' (os.length + 1) (flat 1 slcell (os ++ [s]))) (hg : W.grownBy W' vO.ownBlock) : GS wS W' R m gW bL gD D lst v' (os ++ [s]) :=
  ⟨hb, h.ow.kept hg (own_ne h.ow h.oo (by decide)), h.bx.grown hg (h.bx.ne_own (by decide) h.oo), h.od.kept hg (own_ne h.od h.oo (by decide)), by rw [List.length_append]; exact ho⟩
end
theorem grpl_at (R : List Nat) {k : Nat} (h : k < (Dg.grpl R).length) : (Dg.grpl R)[k] = nints (Bs.els (Dg.scc R (Dg.ld R k)) 0) := by
  have hk : k < (Dg.leads R).length := by simpa [Dg.grpl] using h
  simp only [Dg.grpl, List.getElem_map]
  rw [Dg.ld_at hk]
  rfl
set_option maxHeartbeats 32000000 in
theorem dpGroups_ok (bg : Nat) (A : Option Addr) (c : Nat) (R : List Nat) (arcs : Int) (w : World) (ht : Tab64 w) (h : DG w bg A c R arcs) (hR : Dg.Ok R) : Calls Tryd.prog 32 #[gp bg] w fun e w' => ∃ (v : Value) (ls : List SLc), e = .returned v ∧ LO w' w.heap.size v ls ∧ ls.map (·.xs) = (Dg.ord R).map (fun v => bsl (Bs.els (Dg.scc R v) 0)) ∧ Below w.heap.size w w' := by
  obtain ⟨i8, hi8, hz0, hz1, hz2⟩ := info_parts bsInfo
  have Hi8 := Lib.hid hi8; have Hz08 := Lib.hid hz0; have Hz18 := Lib.hid hz1; have Hz28 := Lib.hid hz2
  clear hi8 hz0 hz1 hz2
  obtain ⟨ib, hib, hzb0, hzb1, hzb2⟩ := info_parts blInfo
  have Hib := Lib.hid hib; have Hzb0 := Lib.hid hzb0; have Hzb1 := Lib.hid hzb1; have Hzb2 := Lib.hid hzb2
  clear hib hzb0 hzb1 hzb2
  obtain ⟨il, hil, hzl0, hzl1, hzl2⟩ := info_parts slInfo
  have Hil := Lib.hid hil; have Hzl0 := Lib.hid hzl0; have Hzl1 := Lib.hid hzl1; have Hzl2 := Lib.hid hzl2
  clear hil hzl0 hzl1 hzl2
  have kC := dgComp_ok bg A c R arcs w ht h hR
  have hl := hR.len
  have hml := Dg.leads_len R
  obtain ⟨m, hm⟩ : ∃ m, (Dg.leads R).length = m := ⟨_, rfl⟩
  have HM := Lib.hid hm
  have hm512 : m ≤ 512 := by omega
  clear hm hl hml
  go_enter Tryd.func32, Tryd.ntmps32
  go_wp2_with fail
  go_step3
  go_wp2_with fail
  refine kC.mono ?_
  rintro e w1 ⟨v, ls, C, rfl, hlo, hmp, hC, hb1⟩
  clear kC
  obtain ⟨A1, c1, rfl⟩ := hlo.slice
  have kS := dgSorted_ok A1 c1 w.heap.size ls C R w1 hR hlo hmp hC
  have hlsm : ls.length = m := by
    have := (Dg.comp_perm hmp hC).length_eq
    rw [List.length_map] at this
    rw [this, ← HM.out]
    simp [Dg.grpl]
  rw [hlsm] at kS ⊢
  clear hlo hmp hC hlsm
  go_wp2_with fail
  refine kS.mono ?_
  rintro e w2 ⟨rfl, ls', hlo, hls, hb2⟩
  clear kS
  have B2 : Below w.heap.size w w2 := hb1.trans hb2
  have hlsm : ls'.length = m := by
    have := congrArg List.length hls
    rw [List.length_map] at this
    rw [this, ← HM.out]
    simp [Dg.grpl]
  have HLS : Hid (ls'.length = m ∧ ls'.map (·.xs) = Dg.grpl R) := Lib.hid ⟨hlsm, hls⟩
  rw [hlsm] at hlo
  clear hls hlsm hb2 hb1
  have hLL : LL w2 A1 ls' := by
    have := hlo
    rw [← HLS.out.1] at this
    exact this.ll
  go_wp2_with (at_make; refine wpList_make_full _ rfl _ _ 100 rfl w2.heap.size 80 i8 _ 8 Tryd.underlying100 Hi8.out Hz08.out Hz18.out .i64 .i64 _ _ m rfl rfl rfl rfl (by rw [Hz28.out]; omega) (by unfold maxLen; omega) (Nat.le_refl _) ?_; intro w3 hown3 hg3)
  have em := made_flat (cell := bscell) (size := 8) (x0 := 0) (by decide) (Value.agg #[.int .u64 0, .int .u64 0, .int .u64 0, .int .u64 0, .int .u64 0, .int .u64 0, .int .u64 0, .int .u64 0]).cells (by simp [Value.cells, bscell0, List.range_succ]) m
  rw [em] at hown3
  clear em
  have hb3 : Below w2.heap.size w2 w3 := (Below.refl _ _).grown hg3 (Nat.le_refl _) (by simp)
  have hs3 := (own_lt hown3).2
  have e0 : List.replicate m 0 = mixTo (fun k => Dg.wt R (Dg.ld R k)) (fun _ => 0) (List.range m) 0 := by rw [mixTo_zero, List.map_const', List.length_range]
  rw [e0] at hown3
  clear e0 hg3
  go_loopw [5, 6, 23] (fun _ _ i wr => ∃ k : Nat, k ≤ m ∧ i = .int .i64 k ∧ Below w2.heap.size w2 wr ∧ wr.ownsRow w2.heap.size 80 8 (.slice (some ⟨w2.heap.size, 0, none⟩) m m) m (flat 8 bscell (mixTo (fun k => Dg.wt R (Dg.ld R k)) (fun _ => 0) (List.range m) k))) (fun _ _ i _ => m - (intOf i).toNat)
  case atStart => exact ⟨0, Nat.zero_le _, rfl, hb3, hown3⟩
  case round =>
    clear hown3 hb3
    obtain ⟨k, hk, rfl, hBr, hown⟩ := hrel
    by_cases hlt : k < m
    · have hkl : k < ls'.length := by rw [HLS.out.1]; exact hlt
      have hkm : k < (Dg.leads R).length := by rw [HM.out]; exact hlt
      have hLr := hLL.next hBr
      obtain ⟨la, hla, hlb, a0⟩ := hLr.outer.one_at hkl
      have hin := hLr.inner _ (List.getElem_mem hkl)
      have hxs : ls'[k].xs = nints (Bs.els (Dg.scc R (Dg.ld R k)) 0) := by
        have e1 := HLS.out.2
        have e2 : (ls'.map (·.xs))[k]'(by simpa using hkl) = ls'[k].xs := by simp
        rw [← e2]
        simp only [e1]
        exact grpl_at R _
      have e3 : slcell ls'[k] 0 = .slice ls'[k].A (Bs.els (Dg.scc R (Dg.ld R k)) 0).length ls'[k].c := by unfold slcell; rw [hxs, nints_len]
      rw [e3] at a0
      rw [hxs] at hin
      clear e3 hxs
      have hvl := (Dg.mem_leads.1 (Dg.ld_in hkm)).1
      have hfit := Dg.scc_fit hR (Dg.ld R k)
      have kN := dpNext_ok bg A c R arcs ls'[k].A ls'[k].c (Bs.els (Dg.scc R (Dg.ld R k)) 0) wr (h.next (after_ B2 hBr)) hR (fun x hx => ((Dg.scc_bit hR hvl x).1 ((Bs.mem_els hfit).1 hx)).1.lt hR hvl) hin (by have := Bs.els_len (Dg.scc R (Dg.ld R k)) 0; omega)
      rw [nextF_part hR] at kN
      have hlk : k < (mixTo (fun k => Dg.wt R (Dg.ld R k)) (fun _ => 0) (List.range m) k).length := by rw [mixTo_length, List.length_range]; exact hlt
      have HPT : Hid (∀ w' : World, w'.ownsRow w2.heap.size 80 8 (.slice (some ⟨w2.heap.size, 0, none⟩) m m) m (flat 8 bscell (mixTo (fun k => Dg.wt R (Dg.ld R k)) (fun _ => 0) (List.range m) k)) → (setRun w' w2.heap.size (k * 8) ((List.range 8).map (bscell (Dg.wt R (Dg.ld R k))))).ownsRow w2.heap.size 80 8 (.slice (some ⟨w2.heap.size, 0, none⟩) m m) m (flat 8 bscell (mixTo (fun k => Dg.wt R (Dg.ld R k)) (fun _ => 0) (List.range m) (k + 1)))) := Lib.hid (fun w' ho => by
        have h1 := own_put (by decide) ho hlk (Dg.wt R (Dg.ld R k))
        have e1 := mixTo_succ (h := fun k => Dg.wt R (Dg.ld R k)) (f := fun _ => 0) (xs := List.range m) (k := k) (by rw [List.length_range]; exact hlt)
        rw [List.getElem_range] at e1
        rwa [e1] at h1)
      clear hin hvl hfit hkm
      have x0 : (0 : Int) ≤ (k : Int) := by omega
      have x1 : (k : Int) < (m : Int) := by omega
      have q0 : decide ((k : Int) < (m : Int)) = true := decide_eq_true x1
      generalize ls'[k].A = VA at *
      generalize ls'[k].c = vc at *
      generalize (Bs.els (Dg.scc R (Dg.ld R k)) 0).length = nl at *
      generalize Dg.wt R (Dg.ld R k) = rk at *
      subst hla
      go_wp2_with fail
      clear a0
      refine kN.mono ?_
      rintro e w5 ⟨rfl, hb5⟩
      have B5 := after_ hBr hb5
      have hown5 := own_below hown hb5
      obtain ⟨r, a0, a1, a2, a3, a4, a5, a6, a7, f0, f1, f2, f3, f4, f5, f6, f7⟩ := own8 hown5 hlk
      have hput := HPT.out w5 hown5
      clear HPT kN
      go_wp2_with fail
      have hbw := below_run8 (k := k * 8) B5 (Nat.le_refl _) (.int .u64 (Bs.wd rk 0 : Nat)) (.int .u64 (Bs.wd rk 1 : Nat)) (.int .u64 (Bs.wd rk 2 : Nat)) (.int .u64 (Bs.wd rk 3 : Nat)) (.int .u64 (Bs.wd rk 4 : Nat)) (.int .u64 (Bs.wd rk 5 : Nat)) (.int .u64 (Bs.wd rk 6 : Nat)) (.int .u64 (Bs.wd rk 7 : Nat))
      go_roundw
      case rel => exact ⟨k + 1, hlt, by go_num, hbw, hput⟩
      case measure => simp [intOf]; omega
    · obtain rfl : k = m := by omega
      have q0 : decide ((k : Int) < (k : Int)) = false := decide_eq_false (by omega)
      have e1 : mixTo (fun k => Dg.wt R (Dg.ld R k)) (fun _ => 0) (List.range k) k = wts R k := by
        have := mixTo_all (h := fun k => Dg.wt R (Dg.ld R k)) (f := fun _ => 0) (xs := List.range k)
        rw [List.length_range] at this
        rw [this]
        rfl
      rw [e1] at hown
      clear e1
      obtain ⟨V, HV, x8, hbV, hsV⟩ := boxes1 wr #[.int .u64 0, .int .u64 0, .int .u64 0, .int .u64 0, .int .u64 0, .int .u64 0, .int .u64 0, .int .u64 0] 80
      have HSV := Lib.hid hsV
      have BV := after_ hBr hbV
      have hownV := own_below hown hbV
      rw [← zero8] at x8
      have hV := HV.out
      clear hsV
      go_wp2_with (at_make; refine wpList_make_full _ rfl _ _ 54 rfl w2.heap.size 4 ib _ 1 Tryd.underlying54 Hib.out Hzb0.out Hzb1.out .i64 .i64 _ _ k rfl rfl rfl rfl (by rw [Hzb2.out]; omega) (by unfold maxLen; omega) BV.size ?_; intro w4 hown4 hg4)
      clear hV
      go_step3
      go_wp2_with fail
      have em := made_flat (cell := blc) (size := 1) (x0 := false) (by decide) (Value.bool false).cells rfl k
      rw [em, dn_nil] at hown4
      clear em
      have gs0 : GS w2 w4 R k w2.heap.size wr.heap.size V.heap.size [] 0 (.slice none 0 0) [] := ⟨BV.grown hg4 BV.size (by simp), hownV.kept hg4 (.inr (by simp [Value.ownBlock])), x8.grown hg4 (by simp), hown4, own_nil _ _ _ _ _⟩
      have HS : Hid (w2.heap.size < wr.heap.size ∧ wr.heap.size < V.heap.size ∧ w2.heap.size ≤ w2.heap.size) := Lib.hid ⟨(own_lt hown).2, x8.lt, Nat.le_refl _⟩
      clear x8 hownV hown4 hg4 hown BV hbV HSV HV
      generalize wr.heap.size = bL at *
      generalize V.heap.size = gD at *
      have HEL : Hid (∀ p, p < k → ∃ VA vc, elt ls' p = ⟨VA, vc, nints (Bs.els (Dg.scc R (Dg.ld R p)) 0)⟩) := Lib.hid (fun p hp => by
        have hpl : p < ls'.length := by rw [HLS.out.1]; exact hp
        have e2 : (ls'.map (·.xs))[p]'(by simpa using hpl) = ls'[p].xs := by simp
        have e3 : ls'[p].xs = nints (Bs.els (Dg.scc R (Dg.ld R p)) 0) := by
          rw [← e2]
          have e1 := HLS.out.2
          simp only [e1]
          exact grpl_at R _
        exact ⟨ls'[p].A, ls'[p].c, by rw [elt_at hpl, ← e3]⟩)
      refine wp_loop_mrg [7, 10, 11, 13, 38, 39, 40, 41, 42, 43, 44, 45, 46, 47, 48, 49, 50, 51, 52, 53, 54, 55, 56, 57, 58, 59, 60, 61, 62, 63, 64, 65, 66, 67, 68, 69, 70, 71, 72, 73, 74, 75, 76, 77, 78, 79, 80, 81, 82, 83] (fun mm f ds W0 => ds = [] ∧ ∃ (C : List Nat) (lst : Nat) (Ao : Option Addr) (co : Nat) (os : List SLc), f 7 = .slice Ao os.length co ∧ mm = k - C.length ∧ GS w2 W0 R k w2.heap.size bL gD C lst (.slice Ao os.length co) os ∧ Hid (Dg.Cho R C lst ∧ os = C.map (elt ls'))) k ?h0 ?_
      case h0 => exact ⟨rfl, [], 0, none, 0, [], rfl, rfl, gs0, Lib.hid ⟨Dg.Cho.start hR, rfl⟩⟩
      clear gs0 hBr
      intro c2' T2' hc2 hT2
      rintro mm f ds W0 ⟨rfl, C, lst, Ao, co, os, hf7, rfl, gs, HC⟩
      replace hc2 := hc2.out
      subst hc2
      replace hT2 := hT2.out
      subst hT2
      generalize hF : mrgF _ 0 _ _ = F
      simp only [mrg_hit, mrg_miss, mrg_end, Nat.reduceBEq, Nat.reduceAdd] at hF
      rw [hf7] at hF
      subst hF
      have hosl : Hid (os.length = C.length) := Lib.hid (by rw [HC.out.2, List.length_map])
      have hCl : C.length ≤ k := by have := HC.out.1.len; rw [HM.out] at this; exact this
      by_cases hlt : C.length < k
      · have x1 : ((C.length : Nat) : Int) < (k : Int) := by omega
        have q1 : decide ((os.length : Int) < (k : Int)) = true := decide_eq_true (by rw [hosl.out]; exact x1)
        have q1' : decide (os.length < k) = true := decide_eq_true (by rw [hosl.out]; exact hlt)
        have HFO : Hid (∃ p, p < k ∧ p ∉ C ∧ Dg.may R lst p = true) := Lib.hid (by
          have := HC.out.1.found hR (by rw [HM.out]; exact hlt)
          rw [HM.out] at this
          exact this)
        go_wp2_with fail
        refine wp_loop_mrg [10, 11, 45, 46, 47, 48, 49, 50, 51, 52, 53, 54, 55, 56, 57, 58, 59, 60, 61, 62, 83] (fun mm f ds W1 => ds = [] ∧ ∃ (i : Nat), f 45 = .int .i64 i ∧ mm = k - i ∧ i ≤ k ∧ GS w2 W1 R k w2.heap.size bL gD C lst (.slice Ao os.length co) os ∧ Hid (∀ q, q < i → q ∈ C ∨ Dg.may R lst q = false)) k ⟨rfl, 0, rfl, rfl, Nat.zero_le _, gs, Lib.hid (fun q h => absurd h (by omega))⟩ ?_
        clear gs
        intro c3' T3' hc2 hT2
        rintro mm f ds W1 ⟨rfl, i, hf45, rfl, hi, gs, HQ⟩
        replace hc2 := hc2.out
        subst hc2
        replace hT2 := hT2.out
        subst hT2
        generalize hF : mrgF _ 0 _ _ = F
        simp only [mrg_hit, mrg_miss, mrg_end, Nat.reduceBEq, Nat.reduceAdd] at hF
        rw [hf45] at hF
        subst hF
        by_cases hli : i < k
        · obtain ⟨VA, vc, hel⟩ := HEL.out i hli
          obtain ⟨vs, hvs⟩ : ∃ vs, Bs.els (Dg.scc R (Dg.ld R i)) 0 = vs := ⟨_, rfl⟩
          rw [hvs] at hel
          have HELI := Lib.hid hel
          have HVS := Lib.hid hvs
          clear hvs
          have hil : i < ls'.length := by rw [HLS.out.1]; exact hli
          have hLr := hLL.next gs.bel
          obtain ⟨la, hla, hlb, a0⟩ := hLr.outer.one_at hil
          have HIN : Hid (∀ W, Below w2.heap.size w2 W → Sl 1 icell W W.heap.size VA (nints vs)) := Lib.hid (fun W hb => by
            have hin := (hLL.next hb).inner _ (List.getElem_mem hil)
            rw [← elt_at hil, hel] at hin
            exact hin)
          rw [← elt_at hil, hel] at a0
          have e3 : ∀ vs, slcell ⟨VA, vc, nints vs⟩ 0 = .slice VA vs.length vc := fun vs => by unfold slcell; rw [nints_len]
          rw [e3] at a0
          clear e3 hel
          have hW8 := own8r gs.ow (k := i) (by rw [wts_len]; exact hli) (r := Dg.wt R (Dg.ld R i)) (wts_at R _)
          have kSub : Hid (∀ u : Kept W1.heap.size W1, Calls Tryd.prog 49 #[bsv (Dg.wt R (Dg.ld R i)), bsv lst] u.val fun e w' => e = .returned (.bool (Dg.may R lst i)) ∧ Below u.val.heap.size u.val w') := Lib.hid (fun u => bsSub_ok _ lst (Bs.fit_dif _ (Dg.nx_fit hR _)) u.val)
          obtain ⟨s0, s0f⟩ := gs.at hli
          obtain ⟨z0, z1, z2, z3, z4, z5, z6, z7⟩ := gs.bx.w
          obtain ⟨y0, y1, y2, y3, y4, y5, y6, y7⟩ := hW8
          have x0 : (0 : Int) ≤ (i : Int) := by omega
          have x2 : (i : Int) < (k : Int) := by omega
          have q2 : decide ((i : Int) < (k : Int)) = true := decide_eq_true x2
          have lD := (own_lt gs.od).2
          have lL := gs.bx.lt
          have lW := (own_lt gs.ow).2
          subst hla
          obtain ⟨dC, hdC⟩ : ∃ dC, decide (i ∈ C) = dC := ⟨_, rfl⟩
          obtain ⟨bM, hbM⟩ : ∃ bM, Dg.may R lst i = bM := ⟨_, rfl⟩
          rw [hdC] at s0
          have HDC := Lib.hid hdC
          have HBM := Lib.hid hbM
          rw [hbM] at kSub
          clear hdC hbM
          have hrec : Hid (∀ W', Below W1.heap.size W1 W' → (dC = true ∨ bM = false) → ∃ m', m' < k - i ∧ (∃ (i' : Nat), Value.int .i64 ((i : Int) + 1) = .int .i64 i' ∧ m' = k - i' ∧ i' ≤ k ∧ GS w2 W' R k w2.heap.size bL gD C lst (.slice Ao os.length co) os ∧ Hid (∀ q, q < i' → q ∈ C ∨ Dg.may R lst q = false))) := Lib.hid (fun W' hb h => by
            refine ⟨k - (i + 1), by omega, i + 1, rfl, rfl, hli, gs.next hb, Lib.hid (fun q hq => ?_)⟩
            rcases Nat.lt_succ_iff_lt_or_eq.1 hq with h2 | h2
            · exact HQ.out q h2
            · subst h2
              rcases h with h | h
              · rw [h] at HDC; exact .inl (of_decide_eq_true HDC.out)
              · rw [h] at HBM; exact .inr HBM.out)
          cases dC with
          | true =>
            go_wp2_with fail
            refine wp_region_kept W1.heap.size W1 (by kernel_rfl) (by kernel_rfl) (Below.refl _ _) ?_
            repeat (go_big_quiet_step (fail))
            refine wpQuiet_nil ?_
            rintro w5 ⟨⟨w5x, hb5⟩, hw5⟩
            dsimp only at hw5
            subst hw5
            clear s0 s0f z0 z1 z2 z3 z4 z5 z6 z7 y0 y1 y2 y3 y4 y5 y6 y7 a0
            go_wp2_with fail
            obtain ⟨m', hm', hi'⟩ := hrec.out _ hb5 (by simp)
            exact ⟨_, rfl, rfl, m', hm', by simp, hi'⟩
          | false =>
            cases bM with
            | false =>
              go_wp2_with fail
              refine wp_region_kept W1.heap.size W1 (by kernel_rfl) (by kernel_rfl) (Below.refl _ _) ?_
              repeat (go_big_quiet_step ((go_at_call 49; exact Kept.calls (Nat.le_refl _) (kSub.out _))))
              refine wpQuiet_nil ?_
              rintro w5 ⟨⟨w5x, hb5⟩, hw5⟩
              dsimp only at hw5
              subst hw5
              clear s0 s0f z0 z1 z2 z3 z4 z5 z6 z7 y0 y1 y2 y3 y4 y5 y6 y7 a0
              go_wp2_with fail
              obtain ⟨m', hm', hi'⟩ := hrec.out _ hb5 (by simp)
              exact ⟨_, rfl, rfl, m', hm', by simp, hi'⟩
            | true =>
              clear hrec
              go_wp2_with fail
              refine wp_region_kept W1.heap.size W1 (by kernel_rfl) (by kernel_rfl) (Below.refl _ _) ?_
              repeat (go_big_quiet_step ((go_at_call 49; exact Kept.calls (Nat.le_refl _) (kSub.out _))))
              refine wpQuiet_nil ?_
              rintro w5 ⟨⟨w5x, hb5⟩, hw5⟩
              dsimp only at hw5
              subst hw5
              clear s0 s0f z0 z1 z2 z3 z4 z5 z6 z7 y0 y1 y2 y3 y4 y5 y6 y7 a0
              have g1 := gs.next hb5
              obtain ⟨s0, s0f⟩ := g1.at hli
              have lD := (own_lt g1.od).2
              obtain ⟨W6, HW6⟩ : ∃ W6, Hid (w5.setCell ⟨gD, i, none⟩ (.bool true) = W6) := ⟨_, Lib.hid rfl⟩
              have g2 := g1.setD HS.out hli
              rw [HW6.out] at g2
              have hW6 := HW6.out
              go_wp2_with fail
              clear hW6 s0 s0f g1 gs lD
              have HV : Hid (∀ v ∈ vs, v < 512) := Lib.hid (fun v hv => by
                have h1 := HM.out
                have hvl := (Dg.mem_leads.1 (Dg.ld_in (R := R) (p := i) (by rw [h1]; exact hli))).1
                rw [← HVS.out] at hv
                have h2 := ((Dg.scc_bit hR hvl v).1 ((Bs.mem_els (Dg.scc_fit hR _)).1 hv)).1.lt hR hvl
                have := hR.len
                omega)
              have hvl512 : vs.length ≤ 512 := by rw [← HVS.out]; exact Bs.els_len _ 0
              have e0 : lst = lst ||| bitsU (vs.take 0) := by simp [bitsU]
              rw [e0] at g2
              clear e0
              refine wp_loop_mrg [13, 68, 69, 70, 71, 72, 73, 74, 75, 76, 77, 78] (fun mm f ds W2 => ds = [] ∧ ∃ (j : Nat), f 68 = .int .i64 j ∧ mm = vs.length - j ∧ j ≤ vs.length ∧ GS w2 W2 R k w2.heap.size bL gD (C ++ [i]) (lst ||| bitsU (vs.take j)) (.slice Ao os.length co) os) vs.length ⟨rfl, 0, rfl, rfl, Nat.zero_le _, g2⟩ ?_
              clear g2
              intro c4' T4' hc2 hT2
              rintro mm f ds W2 ⟨rfl, j, hf68, rfl, hj, g4⟩
              replace hc2 := hc2.out
              subst hc2
              replace hT2 := hT2.out
              subst hT2
              generalize hF : mrgF _ 0 _ _ = F
              simp only [mrg_hit, mrg_miss, mrg_end, Nat.reduceBEq, Nat.reduceAdd] at hF
              rw [hf68] at hF
              subst hF
              by_cases hjl : j < vs.length
              · obtain ⟨lb, hlb1, hlb2, b0⟩ := (HIN.out W2 g4.bel).int_at (k := j) (by rw [nints_len]; exact hjl)
                rw [show (nints vs)[j]'(by rw [nints_len]; exact hjl) = ((vs[j] : Nat) : Int) by unfold nints; rw [List.getElem_map]] at b0
                have hv512 := HV.out vs[j] (List.getElem_mem hjl)
                have HB1 : Hid (lst ||| bitsU (vs.take (j + 1)) = lst ||| bitsU (vs.take j) ||| 2 ^ vs[j]) := Lib.hid (by rw [List.take_succ_eq_append_getElem hjl, bitsU_snoc, Nat.or_assoc])
                have x0 : (0 : Int) ≤ (j : Int) := by omega
                have x3 : (j : Int) < (vs.length : Int) := by omega
                have q4 : decide ((j : Int) < (vs.length : Int)) = true := decide_eq_true x3
                have HN : Hid (∀ W', GS w2 W' R k w2.heap.size bL gD (C ++ [i]) (lst ||| bitsU (vs.take (j + 1))) (.slice Ao os.length co) os → ∃ m', m' < vs.length - j ∧ (∃ (j' : Nat), Value.int .i64 ((j : Int) + 1) = .int .i64 j' ∧ m' = vs.length - j' ∧ j' ≤ vs.length ∧ GS w2 W' R k w2.heap.size bL gD (C ++ [i]) (lst ||| bitsU (vs.take j')) (.slice Ao os.length co) os)) := Lib.hid (fun W' h => ⟨vs.length - (j + 1), by omega, j + 1, rfl, rfl, hjl, h⟩)
                generalize vs[j] = v at *
                generalize hM' : lst ||| bitsU (vs.take j) = M' at *
                generalize hM'' : lst ||| bitsU (vs.take (j + 1)) = M'' at *
                clear hM' hM''
                subst hlb1
                obtain ⟨z0, z1, z2, z3, z4, z5, z6, z7⟩ := g4.bx.w
                go_wp2_with fail
                clear b0 z0 z1 z2 z3 z4 z5 z6 z7
                refine (bsAdd_ok M' v W2 hv512).mono ?_
                rintro e w7 ⟨rfl, hb7⟩
                have t4 := g4.next hb7
                rw [← HB1.out]
                obtain ⟨Y, HY, z, hBY, hsY, hoY⟩ := store8 w7 bL M'' _ _ t4.bx rfl
                obtain ⟨g0, g1, g2, g3, g4', g5, g6, g7⟩ := t4.bx.f8
                obtain ⟨d0, d1, d2, d3, d4, d5, d6, d7⟩ := t4.bx.w
                have g8 := t4.setL HS.out (grown8 HY.out) z
                have hY := HY.out
                clear z hBY hoY
                go_wp2_with fail
                obtain ⟨m', hm', hi'⟩ := HN.out _ g8
                exact ⟨_, rfl, rfl, m', hm', by simp, hi'⟩
              · obtain rfl : j = vs.length := by omega
                have q4 : decide ((vs.length : Int) < (vs.length : Int)) = false := decide_eq_false (by omega)
                rw [List.take_length] at g4
                have hol := hosl.out
                have hom : os.length ≤ 512 := by omega
                have HOM := Lib.hid hom
                clear hol hom
                have hcs : #[Value.slice VA vs.length vc].toList = (List.range 1).map (slcell ⟨VA, vc, nints vs⟩) := by simp [slcell, nints_len]
                have HCS := Lib.hid hcs
                clear hcs
                go_wp2_with (at_builtin; refine wpList_push (w0 := w2) (cell := slcell) (y := (⟨VA, vc, nints vs⟩ : SLc)) rfl _ _ _ rfl w2.heap.size w2.heap.size 39 il _ 24 Tryd.underlying33 Hil.out Hzl0.out Hzl1.out Hzl2.out rfl (by decide) _ _ _ rfl g4.oo _ _ HCS.out _ rfl (sl_one _) (by have := HOM.out; unfold maxLen; omega) (by have := HOM.out; omega) g4.bel.size (Nat.le_refl _) g4.bel ?_; intro v' w8 hown8 hb8 hg8; obtain ⟨g8, cap8, rfl⟩ := ownsRow_succ hown8; have g5 := g4.push hb8 hown8 hg8)
                have HC2 : Dg.Cho R (C ++ [i]) (lst ||| bitsU vs) := by
                  have h1 := HC.out.1.next hR (p := i) (by rw [HM.out]; exact hli) (of_decide_eq_false HDC.out) HBM.out HQ.out
                  rw [← HVS.out, bitsU_els (Dg.scc_fit hR _)]
                  exact h1
                refine ⟨rfl, k - (C ++ [i]).length, by rw [List.length_append]; simp; omega, C ++ [i], lst ||| bitsU vs, some ⟨g8, 0, none⟩, cap8, os ++ [⟨VA, vc, nints vs⟩], by rw [List.length_append]; rfl, rfl, by rw [List.length_append]; exact g5, Lib.hid ⟨HC2, ?_⟩⟩
                rw [List.map_append, ← HC.out.2, List.map_cons, List.map_nil, HELI.out]
        · exfalso
          obtain ⟨p, h1, h2, h3⟩ := HFO.out
          rcases HQ.out p (by omega) with h | h
          · exact h2 h
          · rw [h] at h3; cases h3
      · have hCk : C.length = k := by omega
        have HCK := Lib.hid hCk
        have q1 : decide ((os.length : Int) < (k : Int)) = false := decide_eq_false (by have := hosl.out; omega)
        have q1' : decide (os.length < k) = false := decide_eq_false (by have := hosl.out; omega)
        clear hCk hlt hCl
        go_wp2_with fail
        rw [Exit.noGoto_ret]
        go_ret
        have hlo' := hlo.below gs.bel
        refine ⟨_, os, rfl, ⟨own_base gs.oo B2.size, fun s hs => ?_⟩, ?_, after_ B2 gs.bel⟩
        · rw [HC.out.2] at hs
          obtain ⟨p, hp, rfl⟩ := List.mem_map.1 hs
          have hpl : p < ls'.length := by
            have := HC.out.1.lt p hp
            rw [HM.out] at this
            rw [HLS.out.1]
            exact this
          rw [elt_at hpl]
          exact hlo'.inner _ (List.getElem_mem hpl)
        · rw [HC.out.2, ← HC.out.1.done (by rw [HM.out]; exact HCK.out), List.map_map, List.map_map]
          refine List.map_congr_left fun p hp => ?_
          obtain ⟨VA, vc, he⟩ := HEL.out p (by have := HC.out.1.lt p hp; rw [HM.out] at this; exact this)
          simp only [Function.comp, he]
          rfl
end Go.Proofs.YtceobfigfmnacaaDoor
end

section
namespace Go.Proofs.YtceobfigfmnacaaDoor
open Go Go.RowKit
set_option maxRecDepth 100000
namespace M
def stv (l : List Mv) (v : Nat) : Int := match l[v]? with | some m => m.st | none => 0
theorem stv_at {l : List Mv} {v : Nat} (h : v < l.length) : l[v].st = stv l v := by unfold stv; rw [List.getElem?_eq_getElem h]
theorem sts_eq (l : List Mv) (s : Nat) : sts l s = (Bs.els s 0).map (stv l) := rfl
end M
theorem inInfo : (Tryd.prog.info? 3).map (fun i => (i.zero, i.size, i.bytes)) = some (some (.int .i64 0), 1, 8) := by kernel_rfl
set_option maxHeartbeats 32000000 in
theorem groups_ok (PA : Option Addr) (pc np : Nat) (ps : List P5) (LA : Option Addr) (lc : Nat) (l : List Mv) (w : World) (ht : Tab64 w) (hnp : np = ps.length) (hP : Sl 5 p5cell w w.heap.size PA ps) (hL : Sl 6 mvcell w w.heap.size LA l) (hl : l.length ≤ 9223372036854775806) (hw : ∀ p ∈ ps, M.W64 p.a ∧ M.W64 p.b) :
    Calls Tryd.prog 15 #[.slice PA np pc, .slice LA l.length lc] w fun e w' => (∃ er, M.errIs ps l er ∧ ((er ≠ 0 ∧ e = .returned (.tuple #[.slice none 0 0, .int .i64 er])) ∨ (er = 0 ∧ ∃ A c ls, e = .returned (.tuple #[.slice A ls.length c, .int .i64 0]) ∧ LO w' w.heap.size (.slice A ls.length c) ls ∧ ls.map (·.xs) = M.grps ps l))) ∧ Below w.heap.size w w' := by
  obtain ⟨ii, hii, hzi0, hzi1, hzi2⟩ := info_parts inInfo
  have Hii := Lib.hid hii; have Hzi0 := Lib.hid hzi0; have Hzi1 := Lib.hid hzi1; have Hzi2 := Lib.hid hzi2
  clear hii hzi0 hzi1 hzi2
  obtain ⟨il, hil, hzl0, hzl1, hzl2⟩ := info_parts slInfo
  have Hil := Lib.hid hil; have Hzl0 := Lib.hid hzl0; have Hzl1 := Lib.hid hzl1; have Hzl2 := Lib.hid hzl2
  clear hil hzl0 hzl1 hzl2
  have kG := graph_ok PA pc np ps LA lc l w hnp hP hL hl hw
  clear hnp hw hP
  go_enter Tryd.func15, Tryd.ntmps15
  go_wp2_with fail
  refine kG.mono ?_
  rintro e w2 ⟨⟨er, her, hcase⟩, hb2⟩
  clear kG
  rcases hcase with ⟨hne, rfl⟩ | ⟨rfl, g, bg, arcs, rfl, hg, hGO⟩
  · have q0 : (er == 0) = false := by simpa using hne
    have q1 : (er != 0) = true := by simpa using hne
    have HER := Lib.hid her
    have HE0 := Lib.hid hne
    clear her hne
    go_wp2_with fail
    go_ret2
    exact ⟨⟨er, HER.out, .inl ⟨HE0.out, rfl⟩⟩, hb2⟩
  · have HER := Lib.hid her
    have hok : M.mvsOk l := by
      rcases HER.out with ⟨h1, h2, -⟩ | ⟨-, -, h⟩ | ⟨-, h⟩
      · exact h1
      · cases h
      · cases h
    have hR := M.rows_ok (ps := ps) hok.1
    have hl512 := hok.1
    have HRL : Hid ((M.rows ps l).length = l.length) := Lib.hid (M.rows_len ps l)
    have kQ := dpGroups_ok bg _ l.length (M.rows ps l) arcs w2 (ht.kept hb2) hGO.dg hR
    clear her hok
    go_wp2_with fail
    refine kQ.mono ?_
    rintro e w3 ⟨v, ls, rfl, hlo, hls, hb3⟩
    clear kQ
    obtain ⟨A1, c1, rfl⟩ := hlo.slice
    have HGR : Hid (M.grps ps l = (Dg.ord (M.rows ps l)).map fun v => M.sts l (Dg.scc (M.rows ps l) v)) := Lib.hid rfl
    have HOL : Hid (∀ v ∈ Dg.ord (M.rows ps l), v < l.length) := Lib.hid (fun v hv => by
      have := (Dg.mem_leads.1 ((Dg.ord_mem hR).1 hv)).1
      rwa [HRL.out] at this)
    have hol : (Dg.ord (M.rows ps l)).length ≤ 512 := by
      have h1 := (Dg.ord_perm hR).length_eq
      have h2 := Dg.leads_len (M.rows ps l)
      have h3 := HRL.out
      omega
    have B3 := after_ hb2 hb3
    have HSC : Hid (∀ v, v < l.length → ∀ x ∈ Bs.els (Dg.scc (M.rows ps l) v) 0, x < l.length) := Lib.hid (fun v hv x hx => by
      have hv' : v < (M.rows ps l).length := by rw [HRL.out]; exact hv
      have := ((Dg.scc_bit hR hv' x).1 ((Bs.mem_els (Dg.scc_fit hR v)).1 hx)).1.lt hR hv'
      rwa [HRL.out] at this)
    generalize Dg.ord (M.rows ps l) = od at *
    obtain ⟨m, hm⟩ : ∃ m, od.length = m := ⟨_, rfl⟩
    have HM := Lib.hid hm
    have hlm : ls.length = m := by rw [← hm, ← List.length_map (f := (·.xs)), hls, List.length_map]
    have HLM := Lib.hid hlm
    rw [hm] at hol
    have hLL := hlo.ll
    have HLS := Lib.hid hls
    rw [hlm]
    clear hm hls hlm hlo hGO hg hb2 hb3
    go_wp2_with fail
    refine wp_loop_mrg [8, 10, 11, 13, 26, 27, 28, 29, 30, 31, 32, 33, 34, 35, 36, 37, 38, 39, 40, 41, 42, 43, 44, 45, 46, 47, 48, 49] (fun mm f ds W0 => ds = [] ∧ ∃ (i : Nat) (Ao : Option Addr) (co : Nat) (os : List SLc), f 26 = .int .i64 i ∧ f 8 = .slice Ao os.length co ∧ mm = m - i ∧ i ≤ m ∧ Below w3.heap.size w3 W0 ∧ LO W0 w3.heap.size (.slice Ao os.length co) os ∧ Hid (os.length = i ∧ os.map (·.xs) = (od.take i).map fun v => M.sts l (Dg.scc (M.rows ps l) v))) m ⟨rfl, 0, none, 0, [], rfl, rfl, rfl, Nat.zero_le _, Below.refl _ _, LO.none_ _ _, Lib.hid ⟨rfl, rfl⟩⟩ ?_
    intro c2' T2' hc2 hT2
    rintro mm f ds W0 ⟨rfl, i, Ao, co, os, hf26, hf8, rfl, hi, hB, hlo, HO⟩
    replace hc2 := hc2.out
    subst hc2
    replace hT2 := hT2.out
    subst hT2
    generalize hF : mrgF _ 0 _ _ = F
    simp only [mrg_hit, mrg_miss, mrg_end, Nat.reduceBEq, Nat.reduceAdd] at hF
    rw [hf26, hf8] at hF
    subst hF
    by_cases hlt : i < m
    · have x0 : (0 : Int) ≤ (i : Int) := by omega
      have x1 : (i : Int) < (m : Int) := by omega
      have q0 : decide ((i : Int) < (m : Int)) = true := decide_eq_true x1
      have hil : i < ls.length := by rw [HLM.out]; exact hlt
      have hio : i < od.length := by rw [HM.out]; exact hlt
      obtain ⟨VA, vc, hel⟩ : ∃ VA vc, ls[i] = ⟨VA, vc, nints (Bs.els (Dg.scc (M.rows ps l) od[i]) 0)⟩ := by
        have e2 : (ls.map (·.xs))[i]'(by simpa using hil) = ls[i].xs := by simp
        have e1 := HLS.out
        simp only [e1, List.getElem_map] at e2
        exact ⟨ls[i].A, ls[i].c, by rw [show nints _ = ls[i].xs from e2]⟩
      have HTK : Hid ((od.take (i + 1)).map (fun v => M.sts l (Dg.scc (M.rows ps l) v)) = (od.take i).map (fun v => M.sts l (Dg.scc (M.rows ps l) v)) ++ [(Bs.els (Dg.scc (M.rows ps l) od[i]) 0).map (M.stv l)]) := Lib.hid (by rw [List.take_succ_eq_append_getElem hio, List.map_append]; rfl)
      have HXL := Lib.hid (HSC.out od[i] (HOL.out _ (List.getElem_mem hio)))
      have hvl := Bs.els_len (Dg.scc (M.rows ps l) od[i]) 0
      generalize Bs.els (Dg.scc (M.rows ps l) od[i]) 0 = vs at *
      have hLr := hLL.next hB
      obtain ⟨la, hla, hlb, a0⟩ := hLr.outer.one_at hil
      have HIN : Hid (∀ W, Below w3.heap.size w3 W → Sl 1 icell W W.heap.size VA (nints vs)) := Lib.hid (fun W hb => by
        have hin := (hLL.next hb).inner _ (List.getElem_mem hil)
        rw [hel] at hin
        exact hin)
      rw [hel] at a0
      have e3 : ∀ vs, slcell ⟨VA, vc, nints vs⟩ 0 = .slice VA vs.length vc := fun vs => by unfold slcell; rw [nints_len]
      rw [e3] at a0
      clear e3 hel
      subst hla
      go_wp2_with fail
      clear a0
      refine wp_loop_mrg [11, 13, 32, 33, 34, 35, 36, 37, 38, 39, 40, 41, 42, 43, 44] (fun mm f ds W1 => ds = [] ∧ ∃ (j : Nat) (As : Option Addr) (cs : Nat), f 32 = .int .i64 j ∧ f 11 = .slice As j cs ∧ mm = vs.length - j ∧ j ≤ vs.length ∧ Below W0.heap.size W0 W1 ∧ W1.ownsRow W0.heap.size 3 1 (.slice As j cs) j (flat 1 icell ((vs.take j).map (M.stv l)))) vs.length ⟨rfl, 0, none, 0, rfl, rfl, rfl, Nat.zero_le _, Below.refl _ _, own_nil _ _ _ _ _⟩ ?_
      intro c3' T3' hc2 hT2
      rintro mm f ds W1 ⟨rfl, j, As, cs, hf32, hf11, rfl, hj, hB1, hrow⟩
      replace hc2 := hc2.out
      subst hc2
      replace hT2 := hT2.out
      subst hT2
      generalize hF : mrgF _ 0 _ _ = F
      simp only [mrg_hit, mrg_miss, mrg_end, Nat.reduceBEq, Nat.reduceAdd] at hF
      rw [hf32, hf11] at hF
      subst hF
      have B1 := after_ hB hB1
      by_cases hjl : j < vs.length
      · obtain ⟨lb, hlb1, hlb2, b0⟩ := (HIN.out W1 B1).int_at (k := j) (by rw [nints_len]; exact hjl)
        rw [show (nints vs)[j]'(by rw [nints_len]; exact hjl) = ((vs[j] : Nat) : Int) by unfold nints; rw [List.getElem_map]] at b0
        have hvj := HXL.out vs[j] (List.getElem_mem hjl)
        have HT2 : Hid ((vs.take (j + 1)).map (M.stv l) = (vs.take j).map (M.stv l) ++ [M.stv l vs[j]]) := Lib.hid (by rw [List.take_succ_eq_append_getElem hjl, List.map_append]; rfl)
        have x0 : (0 : Int) ≤ (j : Int) := by omega
        have x3 : (j : Int) < (vs.length : Int) := by omega
        have q4 : decide ((j : Int) < (vs.length : Int)) = true := decide_eq_true x3
        generalize vs[j] = v at *
        obtain ⟨lm, hlm, hlmb, m0, -⟩ := (hL.below (after_ B3 B1)).mv6 hvj
        rw [M.stv_at hvj] at m0
        have y0 : (0 : Int) ≤ (v : Int) := by omega
        have y1 : (v : Int) < (l.length : Int) := by omega
        generalize M.stv l v = sx at *
        subst hlb1 hlm
        have HN : Hid (∀ W' g8 cap8, Below W0.heap.size W0 W' → W'.ownsRow W0.heap.size 3 1 (.slice (some ⟨g8, 0, none⟩) (j + 1) cap8) (j + 1) (flat 1 icell ((vs.take j).map (M.stv l) ++ [sx])) → ∃ m', m' < vs.length - j ∧ (∃ (j' : Nat) (As : Option Addr) (cs : Nat), Value.int .i64 ((j : Int) + 1) = .int .i64 j' ∧ Value.slice (some ⟨g8, 0, none⟩) (j + 1) cap8 = .slice As j' cs ∧ m' = vs.length - j' ∧ j' ≤ vs.length ∧ Below W0.heap.size W0 W' ∧ W'.ownsRow W0.heap.size 3 1 (.slice As j' cs) j' (flat 1 icell ((vs.take j').map (M.stv l))))) := Lib.hid (fun W' g8 cap8 h1 h2 => ⟨vs.length - (j + 1), by omega, j + 1, some ⟨g8, 0, none⟩, cap8, rfl, rfl, rfl, hjl, h1, by rw [HT2.out]; exact h2⟩)
        go_wp2_with (at_builtin; refine wpList_push (w0 := W0) (cell := icell) (y := sx) rfl _ _ _ rfl W0.heap.size W0.heap.size 3 ii _ 8 Tryd.underlying39 Hii.out Hzi0.out Hzi1.out Hzi2.out rfl (by decide) _ _ _ rfl hrow _ _ rfl _ rfl (fun _ => rfl) (by unfold maxLen; omega) (by omega) hB1.size (Nat.le_refl _) hB1 ?_; intro v' w8 hown8 hb8 hg8; obtain ⟨g8, cap8, rfl⟩ := ownsRow_succ hown8)
        obtain ⟨m', hm', hi'⟩ := HN.out _ _ _ hb8 hown8
        exact ⟨_, rfl, rfl, m', hm', by simp, hi'⟩
      · obtain rfl : j = vs.length := by omega
        have q4 : decide ((vs.length : Int) < (vs.length : Int)) = false := decide_eq_false (by omega)
        rw [List.take_length] at hrow
        have hlo1 := hlo.below hB1
        have HOM : Hid (os.length ≤ 512) := Lib.hid (by have := HO.out.1; omega)
        have HCS : Hid (#[Value.slice As vs.length cs].toList = (List.range 1).map (slcell ⟨As, cs, vs.map (M.stv l)⟩)) := Lib.hid (by simp [slcell])
        go_wp2_with (at_builtin; refine wpList_push (w0 := w3) (cell := slcell) (y := (⟨As, cs, vs.map (M.stv l)⟩ : SLc)) rfl _ _ _ rfl w3.heap.size w3.heap.size 39 il _ 24 Tryd.underlying33 Hil.out Hzl0.out Hzl1.out Hzl2.out rfl (by decide) _ _ _ rfl hlo1.outer _ _ HCS.out _ rfl (sl_one _) (by have := HOM.out; unfold maxLen; omega) (by have := HOM.out; omega) B1.size (Nat.le_refl _) B1 ?_; intro v' w8 hown8 hb8 hg8; obtain ⟨g8, cap8, rfl⟩ := ownsRow_succ hown8)
        have hP := hlo1.push (s := ⟨As, cs, vs.map (M.stv l)⟩) (by rw [List.length_map]; exact own_base hrow hB.size) hown8 hg8
        refine ⟨rfl, m - (i + 1), by omega, i + 1, rfl, some ⟨g8, 0, none⟩, cap8, os ++ [⟨As, cs, vs.map (M.stv l)⟩], by rw [List.length_append]; rfl, rfl, hlt, by rw [List.length_append]; exact hP, Lib.hid ⟨by rw [List.length_append, HO.out.1]; rfl, ?_⟩⟩
        rw [List.map_append, HO.out.2, ← List.map_take, HTK.out]
        rfl
    · obtain rfl : i = m := by omega
      have q0 : decide ((i : Int) < (i : Int)) = false := decide_eq_false (by omega)
      go_wp2_with fail
      go_ret2
      refine ⟨⟨0, HER.out, .inr ⟨rfl, Ao, co, os, rfl, ⟨own_base hlo.outer B3.size, fun s hs => own_base (hlo.inner s hs) B3.size⟩, ?_⟩⟩, after_ B3 hB⟩
      rw [HO.out.2, HGR.out, ← HM.out, List.take_length]
end Go.Proofs.YtceobfigfmnacaaDoor
end

section
namespace Go.Proofs.YtceobfigfmnacaaDoor
open Go Go.RowKit Go.Maps
set_option maxRecDepth 100000
namespace M
def befv (l : List Mv) (v : Nat) (pre : List Nat) : List Int := (pre.filter fun u => decide (u ≠ v)).map (stv l)
theorem befv_snoc (l : List Mv) (v : Nat) (pre : List Nat) (x : Nat) : befv l v (pre ++ [x]) = if x ≠ v then befv l v pre ++ [stv l x] else befv l v pre := by
  unfold befv
  rw [List.filter_append, List.map_append]
  split
  · rename_i h; rw [List.filter_cons_of_pos (by simpa using h)]; rfl
  · rename_i h; rw [List.filter_cons_of_neg (by simpa using h)]; simp
theorem befv_len (l : List Mv) (v : Nat) (pre : List Nat) : (befv l v pre).length ≤ pre.length := by
  unfold befv
  rw [List.length_map]
  exact List.length_filter_le _ _
def bef (ps : List P5) (l : List Mv) (v : Nat) : List Int := befv l v (Bs.els (Dg.rch (rows ps l) v) 0)
end M
set_option maxHeartbeats 32000000 in
theorem before_ok (PA : Option Addr) (pc np : Nat) (ps : List P5) (LA : Option Addr) (lc : Nat) (l : List Mv) (st : Int) (w : World) (ht : Tab64 w) (hnp : np = ps.length) (hP : Sl 5 p5cell w w.heap.size PA ps) (hL : Sl 6 mvcell w w.heap.size LA l) (hl : l.length ≤ 9223372036854775806) (hw : ∀ p ∈ ps, M.W64 p.a ∧ M.W64 p.b) (hst : M.W64 st) :
    Calls Tryd.prog 17 #[.slice PA np pc, .slice LA l.length lc, .int .i64 st] w fun e w' => (∃ er, M.errIs ps l er ∧ ((er ≠ 0 ∧ e = .returned (.tuple #[.slice none 0 0, .int .i64 er])) ∨ (er = 0 ∧ ((M.idx l st = none ∧ e = .returned (.tuple #[.slice none 0 0, .int .i64 9])) ∨ ∃ v A c, M.idx l st = some v ∧ e = .returned (.tuple #[.slice A (M.bef ps l v).length c, .int .i64 0]) ∧ Sl 1 icell w' w'.heap.size A (M.bef ps l v))))) ∧ Below w.heap.size w w' := by
  obtain ⟨ii, hii, hzi0, hzi1, hzi2⟩ := info_parts inInfo
  have Hii := Lib.hid hii; have Hzi0 := Lib.hid hzi0; have Hzi1 := Lib.hid hzi1; have Hzi2 := Lib.hid hzi2
  clear hii hzi0 hzi1 hzi2
  obtain ⟨V, HW, x4, hB, hsV⟩ := boxes1 w #[.slice LA l.length lc] 31
  have kG := graph_ok PA pc np ps LA lc l V hnp ((hP.below hB).more hB.size) ((hL.below hB).more hB.size) hl hw
  have HKY : Hid (keyOf Tryd.prog 3 (.int .i64 st) = some (.int .i64 st)) := Lib.hid (Maps.keyOf_int_mk (P := Tryd.prog) Tryd.underlying3 (wf64 hst))
  have hL0 : Hid (∀ W, Below w.heap.size w W → Sl 6 mvcell W W.heap.size LA l) := Lib.hid (fun W hb => (hL.below hb).more hb.size)
  clear hnp hw hP hst
  have hV := HW.out
  clear hsV
  refine calls_marks Tryd.func17 rfl ?_
  simp only [Tryd.ntmps17, List.size_toArray, List.length_cons, List.length_nil, Nat.reduceAdd, Nat.reduceSub, Array.replicate_succ, Array.replicate_zero, List.push_toArray, List.append_toArray, List.nil_append, List.cons_append]
  have c4 := x4.c1
  go_wp2_with fail
  clear hV c4
  refine kG.mono ?_
  rintro e w2 ⟨⟨er, her, hcase⟩, hb2⟩
  clear kG
  have B2 := after_ hB hb2
  rcases hcase with ⟨hne, rfl⟩ | ⟨rfl, g, bg, arcs, rfl, hg, hGO⟩
  · have q0 : (er == 0) = false := by simpa using hne
    have q1 : (er != 0) = true := by simpa using hne
    have HER := Lib.hid her
    have HE0 := Lib.hid hne
    clear her hne
    go_wp2_with fail
    exact leaves_marks (B := w.heap.size) (C := w.heap.size) _ _ Marks.none_ (fun W' hs => ⟨.tuple #[.slice none 0 0, .int .i64 er], by simp [results, Tryd.results17, go_sem], ⟨er, HER.out, .inl ⟨HE0.out, rfl⟩⟩, B2.trans hs.below⟩)
  · have HER := Lib.hid her
    have hok : M.mvsOk l := by
      rcases HER.out with ⟨h1, h2, -⟩ | ⟨-, -, h⟩ | ⟨-, h⟩
      · exact h1
      · cases h
      · cases h
    have HOK := Lib.hid hok
    have hR := M.rows_ok (ps := ps) hok.1
    have hl512 := hok.1
    have HRL : Hid ((M.rows ps l).length = l.length) := Lib.hid (M.rows_len ps l)
    have y4 := x4.below hb2
    have c4 := y4.c1
    have kP := positions_ok LA lc l w2 ((hL.below B2).more B2.size) hok
    clear her hok
    go_wp2_with fail
    clear c4
    refine kP.mono ?_
    rintro e w3 ⟨bp, D, rfl, hbp, hpos, hD, hb3⟩
    clear kP
    have B3 := after_ B2 hb3
    obtain ⟨v, r, hh, ha, hr1, hr0⟩ := hD.get st
    have HH := Lib.hid hh; have HA := Lib.hid ha; have HR1 := Lib.hid hr1; have HR0 := Lib.hid hr0
    clear hh ha hr1 hr0
    obtain ⟨X, HX, x10, hbX, hsX⟩ := boxes1 w3 #[.int .i64 (v : Int)] 3
    have hX := HX.out
    clear hsX
    cases r with
    | false =>
      go_wp2_with (at_lookup; refine wpList_pos rfl _ _ 56 rfl 3 3 (Maps.int_keyed Tryd.underlying3) Tryd.underlying56 Tryd.underlying3 (zeroIntG _) bp l.length D rfl hpos (.int .i64 st) _ rfl HKY.out v false HH.out HA.out ?_)
      have BX := after_ B3 hbX
      exact leaves_marks (B := w.heap.size) (C := w.heap.size) _ _ Marks.none_ (fun W' hs => ⟨.tuple #[.slice none 0 0, .int .i64 9], by simp [results, Tryd.results17, go_sem], ⟨0, HER.out, .inr ⟨rfl, .inl ⟨HR0.out (by simp), rfl⟩⟩⟩, BX.trans hs.below⟩)
    | true =>
      have hvl : v < l.length := (HR1.out (by simp)).2
      have c10 := x10.c1
      go_wp2_with (at_lookup; refine wpList_pos rfl _ _ 56 rfl 3 3 (Maps.int_keyed Tryd.underlying3) Tryd.underlying56 Tryd.underlying3 (zeroIntG _) bp l.length D rfl hpos (.int .i64 st) _ rfl HKY.out v true HH.out HA.out ?_)
      clear hX c10
      have BX := after_ B3 hbX
      have kR := dgReachable_ok bg _ l.length (M.rows ps l) arcs v X (ht.kept BX) ((hGO.dg.next hb3).next hbX) hR (by rw [HRL.out]; exact hvl)
      refine kR.mono ?_
      rintro e w5 ⟨rfl, hb5⟩
      clear kR
      have B5 := after_ BX hb5
      have HRF : Hid (∀ u ∈ Bs.els (Dg.rch (M.rows ps l) v) 0, u < l.length) := Lib.hid (fun u hu => by
        have hv' : v < (M.rows ps l).length := by rw [HRL.out]; exact hvl
        have h1 := (Bs.mem_els (Dg.rch_fit hR hv')).1 hu
        have := ((Dg.rch_bit hR hv' u).1 h1).lt hR hv'
        rwa [HRL.out] at this)
      generalize hrr : Dg.rch (M.rows ps l) v = rr at *
      have HRR := Lib.hid hrr
      clear hrr
      have z4 := (y4.below hb3).below hbX |>.below hb5
      have z10 := x10.below hb5
      obtain ⟨Z, HZ, x12, x13, hbZ, hsZ⟩ := boxes2 w5 (bsc rr) 80 #[.slice none 0 0] 39
      have HSZ := Lib.hid hsZ
      have y10 := z10.below hbZ
      have v4 := z4.below hbZ
      have BZ := after_ B5 hbZ
      obtain ⟨d0, d1, d2, d3, d4, d5, d6, d7⟩ := x12.w
      have hZ := HZ.out
      clear hsZ
      go_wp2_with fail
      clear hZ d0 d1 d2 d3 d4 d5 d6 d7
      refine (bsAll_ok rr Z).mono ?_
      rintro e w6 ⟨rfl, hb6, hs6, xb⟩
      have B6 := after_ BZ hb6
      have p4 := v4.below hb6
      have p10 := y10.below hb6
      have p13 := x13.below hb6
      have hbz : w5.heap.size + 1 < Z.heap.size := x13.lt
      have hwz : w3.heap.size < Z.heap.size := y10.lt
      have hw35 : w3.heap.size < w5.heap.size := z10.lt
      have hw3 : w.heap.size ≤ w3.heap.size := B3.size
      go_wp2_with fail
      refine wp_range (gf := 54) (lb := #[.pointer (some ⟨Z.heap.size, 0, none⟩)]) rfl (enters_of Tryd.func54 (by kernel_rfl) rfl) (bsAll_seq Z.heap.size rr) (fun _ => rfl)
        (fun pre W => Below w.heap.size w W ∧ Box W w.heap.size #[.slice LA l.length lc] 31 ∧ Box W w3.heap.size #[.int .i64 (v : Int)] 3 ∧ Box W Z.heap.size (bsc rr) 80 ∧ ∃ A c, Box W (w5.heap.size + 1) #[.slice A (M.befv l v pre).length c] 39 ∧ W.ownsRow Z.heap.size 3 1 (.slice A (M.befv l v pre).length c) (M.befv l v pre).length (flat 1 icell (M.befv l v pre))) (fun _ _ _ => False)
        ?hI (fun _ _ _ _ _ h => h.elim) ?hK ⟨B6, p4, p10, xb, none, 0, p13, own_nil _ _ _ _ _⟩ ?round ?done (fun _ _ _ h => h.elim)
      case hI => exact fun pre W W' row ⟨h1, h2, h3, h4, A, c, h5, h6⟩ hg hr => ⟨below_own h1 B6.size h1.size hg hr, h2.own hg hr, h3.own hg hr, h4.own hg hr, A, c, h5.own hg hr, row_own h6 hg hr⟩
      case hK => exact fun pre W ⟨h1, _, _, h4, _⟩ => ⟨h4, ht.kept h1⟩
      case round =>
        clear p4 p10 p13 xb
        intro r' pre x post W hL hl' hd hi
        gi_wp2
        refine ⟨hl', hd, hi, fun _ => True, fun _ _ _ _ _ _ _ => trivial, trivial, ?_⟩
        clear hl' hd hi
        rintro r'' W2 hl' hd ⟨h1, h2, h3, h4, A, c, h5, h6⟩ -
        have hxl := HRF.out x (by rw [hL]; simp)
        have hpl : pre.length < 512 := by have := Bs.els_len rr 0; rw [hL] at this; simp at this; omega
        have HP := Lib.hid (M.befv_snoc l v pre x)
        have hbl := M.befv_len l v pre
        clear hL
        have D10 := h3.c1
        by_cases hne : x = v
        · have q1 : ((x : Int) == (v : Int)) = true := by simpa using (by omega : (x : Int) = (v : Int))
          have q2 : ((x : Int) != (v : Int)) = false := by simpa using (by omega : (x : Int) = (v : Int))
          have HP2 : Hid (M.befv l v (pre ++ [x]) = M.befv l v pre) := Lib.hid (by rw [HP.out, if_neg (by omega)])
          clear HP hne hbl
          gi_wp2_with fail
          rw [HP2.out]
          exact ⟨hl', hd, h1, h2, h3, h4, A, c, h5, h6⟩
        · have q1 : ((x : Int) == (v : Int)) = false := by simpa using (by omega : ¬ (x : Int) = (v : Int))
          have q2 : ((x : Int) != (v : Int)) = true := by simpa using (by omega : ¬ (x : Int) = (v : Int))
          have HP2 : Hid (M.befv l v (pre ++ [x]) = M.befv l v pre ++ [M.stv l x]) := Lib.hid (by rw [HP.out, if_pos hne])
          clear HP hne
          obtain ⟨lm, hlm, hlmb, m0, -⟩ := (hL0.out W2 h1).mv6 hxl
          rw [M.stv_at hxl] at m0
          generalize M.stv l x = sx at *
          generalize M.befv l v pre = bs at *
          have y0 : (0 : Int) ≤ (x : Int) := by omega
          have y1 : (x : Int) < (l.length : Int) := by omega
          have HLM := Lib.hid hlm
          subst hlm
          have D13 := h5.c1
          have D4 := h2.c1
          gi_wp2_with fail
          refine wpIn_of_any (by kernel_rfl) (by kernel_rfl) ?_
          refine wpAny_of_L (S := fun ls w' => (ls.getD 7 true = false → w'.cell? ⟨w5.heap.size + 1, 0, none⟩ = some (.slice A bs.length c)) ∧ (ls.getD 3 true = false → w'.cell? ⟨w.heap.size, 0, none⟩ = some (.slice (some lm) l.length lc))) _ _ _ _ ?_
          refine wpAnyL_take (i := 0) (q := 7) (v := .slice A bs.length c) (fun w' => w'.cell? ⟨w5.heap.size + 1, 0, none⟩ = some (.slice A bs.length c)) rfl (by kernel_rfl) (by kernel_rfl) (by kernel_rfl) (fun c a w h => h) rfl (by kernel_rfl) (by decide) (fun ls w => by simp) (fun ls w h1 h2 => h2.1 h1) rfl rfl (fun w h => by go_simp) ⟨fun _ => D13, fun _ => D4⟩ ?_
          refine wpAnyL_take (i := 1) (q := 3) (v := .slice (some lm) l.length lc) (fun w' => w'.cell? ⟨w.heap.size, 0, none⟩ = some (.slice (some lm) l.length lc)) rfl (by kernel_rfl) (by kernel_rfl) (by kernel_rfl) (fun c a w h => h) rfl (by kernel_rfl) (by decide) (fun ls w => by simp) (fun ls w h1 h2 => h2.2 h1) rfl rfl (fun w h => by go_simp) ⟨fun _ => D13, fun _ => D4⟩ ?_
          try simp only [Act.put]
          refine wpAnyL_one (i := 2) (by kernel_rfl) ?_
          refine wpOp_K (fun K hK => ?_)
          refine wpOp_one rfl rfl ?_
          go_simp
          refine hK _ _ ⟨⟨fun _ => D13, fun _ => D4⟩, ?_⟩
          clear hK K
          try simp only [Act.put]
          refine wpAnyL_one (i := 3) (by kernel_rfl) ?_
          refine wpOp_K (fun K hK => ?_)
          refine wpOp_one rfl rfl ?_
          go_simp
          refine hK _ _ ⟨⟨fun _ => D13, fun h => absurd h (by simp)⟩, ?_⟩
          clear hK K
          try simp only [Act.put]
          refine wpAnyL_one (i := 4) (by kernel_rfl) ?_
          refine wpOp_K (fun K hK => ?_)
          refine wpOp_one rfl rfl ?_
          go_simp
          refine hK _ _ ⟨⟨fun _ => D13, fun h => absurd h (by simp)⟩, ?_⟩
          clear hK K
          try simp only [Act.put]
          refine wpAnyL_one (i := 5) (by kernel_rfl) ?_
          refine wpOp_K (fun K hK => ?_)
          refine wpOp_one rfl rfl ?_
          go_simp
          refine hK _ _ ⟨⟨fun _ => D13, fun h => absurd h (by simp)⟩, ?_⟩
          clear hK K
          try simp only [Act.put]
          refine wpAnyL_one (i := 6) (by kernel_rfl) ?_
          refine wpOp_K (fun K hK => ?_)
          refine wpOp_one rfl rfl ?_
          go_simp
          refine hK _ _ ⟨⟨fun _ => ?_, fun h => absurd h (by simp)⟩, ?_⟩
          · exact (World.cell?_alloc_lt W2.drew _ ⟨w5.heap.size + 1, 0, none⟩ h5.lt).trans D13
          clear hK K
          try simp only [Act.put]
          refine wpAnyL_one (i := 7) (by kernel_rfl) ?_
          refine wpOp_K (fun K hK => ?_)
          refine wpOp_one rfl rfl ?_
          have h1d : Below w.heap.size w W2.drew := h1.drew
          have h6d : W2.drew.ownsRow Z.heap.size 3 1 (.slice A bs.length c) bs.length (flat 1 icell bs) := own_below h6 (Below.refl _ _).drew
          have h5d : Box W2.drew (w5.heap.size + 1) #[.slice A bs.length c] 39 := h5.below (Below.refl _ _).drew
          have hld := hl'.below (Below.refl W2.heap.size W2).drew
          have hdd := hd.below (Below.refl W2.heap.size W2).drew
          have h2d := h2.below (Below.refl W2.heap.size W2).drew
          have h3d := h3.below (Below.refl W2.heap.size W2).drew
          have h4d := h4.below (Below.refl W2.heap.size W2).drew
          refine push_wp (w := W2.drew) (w0 := w) (cell := icell) (y := sx) _ _ _ rfl Z.heap.size w.heap.size 3 ii _ 8 Tryd.underlying39 Hii.out Hzi0.out Hzi1.out Hzi2.out rfl (by decide) (.slice A bs.length c) bs.length bs (by simp [Act.eval]) h6d _ _ rfl 1 (by simp [Act.eval]) (fun _ => rfl) (by unfold maxLen; omega) (by omega) (Nat.le_of_lt h4d.lt) BZ.size h1d ?_
          intro v' w8 hown8 hb8 hg8
          obtain ⟨g8, cap8, rfl⟩ := ownsRow_succ hown8
          have x58 := h5d.grown hg8 (h5d.ne_own (by decide) h6d)
          have f58 := x58.frozen 0
          have c58 := x58.c1
          have x28 := h2d.grown hg8 (h2d.ne_own (by decide) h6d)
          have x38 := h3d.grown hg8 (fun e => by have := (h6d.lt _ e.symm).1; omega)
          have x48 := h4d.grown hg8 (h4d.ne_own (by decide) h6d)
          have hl8 := hld.grown hg8 (Hold.ne_own hld rfl h6d)
          have hd8 := hdd.grown hg8 (Hold.ne_own hdd rfl h6d)
          refine hK _ _ ⟨⟨fun h => absurd h (by simp), fun h => absurd h (by simp)⟩, ?_⟩
          clear hK K
          try simp only [Act.put]
          refine wpAnyL_one (i := 8) (by kernel_rfl) ?_
          refine wpOp_K (fun K hK => ?_)
          refine wpOp_one rfl rfl ?_
          go_simp
          refine hK _ _ ⟨⟨fun h => absurd h (by simp), fun h => absurd h (by simp)⟩, ?_⟩
          clear hK K
          refine wpAnyL_done (by kernel_rfl) ?_ _
          refine onlyK_of ?_
          gi_wp2_with fail
          rw [HP2.out]
          have hk := hown8.kept (grown_set w8 (w5.heap.size + 1) 0 (.slice (some ⟨g8, 0, none⟩) (bs.length + 1) cap8)) (.inr (fun e => x58.ne_own (by decide) hown8 e.symm))
          have hxb := x58.set 0 (.slice (some ⟨g8, 0, none⟩) (bs.length + 1) cap8)
          refine ⟨hl8.set_other (hl8.ne_box rfl x58) _, hd8.set_other (hd8.ne_box rfl x58) _, hb8.setCell (p := ⟨w5.heap.size + 1, 0, none⟩) (by dsimp only; omega) _, x28.set_other (p := ⟨w5.heap.size + 1, 0, none⟩) (by dsimp only; omega) _, x38.set_other (p := ⟨w5.heap.size + 1, 0, none⟩) (by dsimp only; omega) _, x48.set_other (p := ⟨w5.heap.size + 1, 0, none⟩) (by dsimp only; omega) _, some ⟨g8, 0, none⟩, cap8, ?_, ?_⟩
          · rw [List.length_append]; exact hxb
          · rw [List.length_append]; exact hk
      case done =>
        rintro W ⟨h1, h2, h3, h4, A, c, h5, h6⟩ hD
        have HBF : Hid (M.befv l v (Bs.els rr 0) = M.bef ps l v) := Lib.hid (by unfold M.bef; rw [HRR.out])
        rw [HBF.out] at h5 h6
        have c5 := h5.c1
        go_wp2_with fail
        refine leaves_marks (B := w.heap.size) _ _ (Marks.none_.cons (C := w.heap.size) B6.size B6.size hD) (fun W' hs => ⟨.tuple #[.slice A (M.bef ps l v).length c, .int .i64 0], by simp [results, Tryd.results17, go_sem], ⟨0, HER.out, .inr ⟨rfl, .inr ⟨v, A, c, (HR1.out (by simp)).1, rfl, Sl.of_own (by decide) (hs.own h6)⟩⟩⟩, h1.trans (hs.below.mono (Nat.le_refl _))⟩)
end Go.Proofs.YtceobfigfmnacaaDoor
end

section
namespace Go.Proofs.YtceobfigfmnacaaDoor
open Go
set_option maxRecDepth 100000
namespace M
def kps : List P5 := [⟨1, 2, 0, 14, 51⟩, ⟨2, 3, 0, 14, 51⟩]
def kl : List Mv := [⟨1, 20, 21, 0, 0, 1⟩, ⟨2, 21, 22, 0, 0, 1⟩, ⟨3, 22, 30, 0, 0, 1⟩]
def kl2 : List Mv := [⟨1, 20, 21, 0, 0, 1⟩, ⟨2, 21, 22, 0, 0, 1⟩, ⟨3, 22, 21, 0, 0, 1⟩]
theorem k_grps : grps kps kl = [[3], [2], [1]] := by kernel_rfl
theorem k_idx : idx kl 1 = some 0 := by kernel_rfl
theorem k_bef : bef kps kl 0 = [2, 3] := by kernel_rfl
theorem k_depth : Dg.depth (rows kps kl) = 3 := by kernel_rfl
theorem k_l1 : legal kps kl [[1, 2, 3]] = 0 := by kernel_rfl
theorem k_l2 : legal kps kl [[1], [2], [3]] = 10 := by kernel_rfl
theorem k_l3 : legal kps kl [[3], [2]] = 9 := by kernel_rfl
theorem k_grps2 : grps kps kl2 = [[2, 3], [1]] := by kernel_rfl
theorem k_depth2 : Dg.depth (rows kps kl2) = 2 := by kernel_rfl
theorem kl_ok : mvsOk kl := ⟨by decide, by decide, by decide⟩
theorem kl2_ok : mvsOk kl2 := ⟨by decide, by decide, by decide⟩
theorem kps_w : ∀ p ∈ kps, W64 p.a ∧ W64 p.b := by intro p hp; simp [kps] at hp; rcases hp with rfl | rfl <;> simp [W64]
end M
end Go.Proofs.YtceobfigfmnacaaDoor
end

section
namespace Go.Proofs.YtceobfigfmnacaaDoor
open Go Go.RowKit
set_option maxRecDepth 100000
namespace Dg
theorem top_le {D : Nat → Nat} {b : Nat} : ∀ (l : List Nat), (∀ x ∈ l, D x ≤ b) → top D l ≤ b := by
  intro l h
  rcases top_ge D l 0 with ⟨_, _, h3 | ⟨w, hw, h3⟩⟩
  · unfold top; omega
  · have := h w hw; unfold top; omega
end Dg
theorem Box.same {w : World} {b : Nat} {cs : Array Value} {t : TypeId} (h : Box w b cs t) {i : Nat} {v : Value} (hv : cs[i]? = some v) : w.setCell ⟨b, i, none⟩ v = w := by
  have hh : (w.setCell ⟨b, i, none⟩ v).heap = w.heap := by
    apply Array.ext_getElem?
    intro k
    by_cases e : b = k
    · subst e
      have h1 := h.set i v
      unfold Box at h h1
      rw [h1, h]
      have : cs.setIfInBounds i v = cs := by
        apply Array.ext_getElem?
        intro j
        rw [Array.getElem?_setIfInBounds]
        split
        · rename_i e; subst e
          split
          · exact hv.symm
          · rename_i hj
            rw [Array.getElem?_eq_none (by omega)] at hv
            cases hv
        · rfl
      rw [this]
    · exact heap_setCell_other w ⟨b, i, none⟩ k v (fun h => e h.symm)
  show { w with heap := (w.setCell ⟨b, i, none⟩ v).heap } = w
  rw [hh]
theorem take_if (vs : List Nat) (k : Nat) (hk : k < vs.length) (t : Nat) (D : Nat → Nat) : (fun j => if j = vs[k] then t else (if j ∈ vs.take k then t else D j)) = fun x => if x ∈ vs.take (k + 1) then t else D x := by
  funext x
  have hm : x ∈ vs.take (k + 1) ↔ x ∈ vs.take k ∨ x = vs[k] := by rw [List.take_succ_eq_append_getElem hk, List.mem_append, List.mem_singleton]
  by_cases e1 : x = vs[k]
  · rw [if_pos e1, if_pos (hm.2 (.inr e1))]
  · rw [if_neg e1]
    by_cases e2 : x ∈ vs.take k
    · rw [if_pos e2, if_pos (hm.2 (.inl e2))]
    · rw [if_neg e2, if_neg (fun h => (hm.1 h).elim e2 e1)]
structure DS (w2 W : World) (base n g9 b9 : Nat) (D : Nat → Nat) (v : Value) (ls : List SLc) : Prop where
  bel : Below w2.heap.size w2 W
  lo : LO W base v ls
  x9 : Box W b9 #[.slice (some ⟨g9, 0, none⟩) n n] 39
  o9 : W.ownsRow w2.heap.size 3 1 (.slice (some ⟨g9, 0, none⟩) n n) n (flat 1 icell (Dg.fl n fun j => (D j : Int)))
section
variable {w2 W W' : World} {base n g9 b9 : Nat} {D : Nat → Nat} {v : Value} {ls : List SLc}
theorem DS.next (h : DS w2 W base n g9 b9 D v ls) (hb : Below W.heap.size W W') : DS w2 W' base n g9 b9 D v ls :=
  ⟨after_ h.bel hb, h.lo.below hb, h.x9.below hb, own_below h.o9 hb⟩
theorem DS.own {row : Option Nat} {B : Nat} (h : DS w2 W base n g9 b9 D v ls) (hB : w2.heap.size ≤ B) (hg : W.grownBy W' row) (hr : ∀ r, row = some r → B ≤ r ∧ ∃ o : Obj, W.heap[r]? = some o ∧ o.isCells = false) : DS w2 W' base n g9 b9 D v ls :=
  ⟨below_own h.bel hB h.bel.size hg hr, h.lo.own hg hr, h.x9.own hg hr, row_own h.o9 hg hr⟩
theorem DS.cell {b i : Nat} (h : DS w2 W base n g9 b9 D v ls) (hs : w2.heap.size ≤ g9 ∧ g9 < b9) (hb : b9 < b) (hlv : v.ownBlock ≠ some b) (hli : ∀ s ∈ ls, (Value.slice s.A s.xs.length s.c).ownBlock ≠ some b) (u : Value) : DS w2 (W.setCell ⟨b, i, none⟩ u) base n g9 b9 D v ls :=
  ⟨h.bel.setCell (p := ⟨b, i, none⟩) (by dsimp only; omega) _, h.lo.off (grown_set W b i u) hlv hli, h.x9.set_other (by dsimp only; omega) _, h.o9.kept (grown_set W b i u) (.inr (fun e => by have e2 : g9 = b := Option.some.inj e; omega))⟩
theorem DS.set (h : DS w2 W base n g9 b9 D v ls) (hs : w2.heap.size ≤ g9 ∧ g9 < b9) (hb : b9 < base) {x : Nat} (hx : x < n) (y : Nat) : DS w2 (W.setCell ⟨g9, x, none⟩ (.int .i64 y)) base n g9 b9 (fun j => if j = x then y else D j) v ls := by
  refine ⟨h.bel.setCell (p := ⟨g9, x, none⟩) (by dsimp only; omega) _, h.lo.far (grown_set W g9 x _) (by omega), h.x9.set_other (by dsimp only; omega) _, ?_⟩
  have h3 := own_set (size := 1) (cell := icell) h.o9 (k := x) (by rw [Dg.fl_len]; exact hx) (j := 0) (y := (y : Int)) (u := .int .i64 y) (by decide) rfl (fun j' h1 h2 => absurd h1 (by omega))
  rw [Nat.mul_one, Nat.add_zero, Dg.fl_set] at h3
  have e : (fun j => if j = x then (y : Int) else (D j : Int)) = fun j => ((if j = x then y else D j : Nat) : Int) := by funext j; split <;> rfl
  rw [e] at h3
  exact h3
theorem DS.at (h : DS w2 W base n g9 b9 D v ls) {x : Nat} (hx : x < n) : W.cell? ⟨g9, x, none⟩ = some (.int .i64 (D x)) ∧ W.frozen? ⟨g9, x, none⟩ = false := by
  have := own_at h.o9 (k := x) (j := 0) (by rw [Dg.fl_len]; exact hx) (by decide)
  rw [Nat.mul_one, Nat.add_zero] at this
  refine ⟨this.1.trans ?_, this.2⟩
  rw [Dg.fl_at]
  rfl
end
set_option maxHeartbeats 32000000 in
theorem depth_ok (PA : Option Addr) (pc np : Nat) (ps : List P5) (LA : Option Addr) (lc : Nat) (l : List Mv) (w : World) (ht : Tab64 w) (hnp : np = ps.length) (hP : Sl 5 p5cell w w.heap.size PA ps) (hL : Sl 6 mvcell w w.heap.size LA l) (hl : l.length ≤ 9223372036854775806) (hw : ∀ p ∈ ps, M.W64 p.a ∧ M.W64 p.b) :
    Calls Tryd.prog 19 #[.slice PA np pc, .slice LA l.length lc] w fun e w' => (∃ er, M.errIs ps l er ∧ ((er ≠ 0 ∧ e = .returned (.tuple #[.int .i64 0, .int .i64 er])) ∨ (er = 0 ∧ e = .returned (.tuple #[.int .i64 (Dg.depth (M.rows ps l) : Nat), .int .i64 0])))) ∧ Below w.heap.size w w' := by
  obtain ⟨ii, hii, hzi0, hzi1, hzi2⟩ := info_parts inInfo
  have Hii := Lib.hid hii; have Hzi0 := Lib.hid hzi0; have Hzi1 := Lib.hid hzi1; have Hzi2 := Lib.hid hzi2
  clear hii hzi0 hzi1 hzi2
  have kG := graph_ok PA pc np ps LA lc l w hnp hP hL hl hw
  clear hnp hw hP
  refine calls_marks Tryd.func19 rfl ?_
  simp only [Tryd.ntmps19, List.size_toArray, List.length_cons, List.length_nil, Nat.reduceAdd, Nat.reduceSub, Array.replicate_succ, Array.replicate_zero, List.push_toArray, List.append_toArray, List.nil_append, List.cons_append]
  go_wp2_with fail
  refine kG.mono ?_
  rintro e w2 ⟨⟨er, her, hcase⟩, hb2⟩
  clear kG
  rcases hcase with ⟨hne, rfl⟩ | ⟨rfl, g, bg, arcs, rfl, hg, hGO⟩
  · have q0 : (er == 0) = false := by simpa using hne
    have q1 : (er != 0) = true := by simpa using hne
    have HER := Lib.hid her
    have HE0 := Lib.hid hne
    clear her hne
    go_wp2_with fail
    exact leaves_marks (B := w.heap.size) (C := w.heap.size) _ _ Marks.none_ (fun W' hs => ⟨.tuple #[.int .i64 0, .int .i64 er], by simp [results, Tryd.results19, go_sem], ⟨er, HER.out, .inl ⟨HE0.out, rfl⟩⟩, hb2.trans hs.below⟩)
  · have HER := Lib.hid her
    have hok : M.mvsOk l := by
      rcases HER.out with ⟨h1, h2, -⟩ | ⟨-, -, h⟩ | ⟨-, h⟩
      · exact h1
      · cases h
      · cases h
    have hR := M.rows_ok (ps := ps) hok.1
    have hl512 := hok.1
    have hRL := M.rows_len ps l
    have HRL : Hid ((M.rows ps l).length = l.length) := Lib.hid hRL
    have hdg := hGO.dg
    clear her hok hRL
    obtain ⟨n, hn⟩ : ∃ n, l.length = n := ⟨_, rfl⟩
    have HN := Lib.hid hn
    rw [hn] at hl512 hdg ⊢
    clear hn
    go_wp2_with (at_make; refine wpList_make_full _ rfl _ _ 39 rfl w2.heap.size 3 ii _ 1 Tryd.underlying39 Hii.out Hzi0.out Hzi1.out .i64 .i64 _ _ n rfl rfl rfl rfl (by rw [Hzi2.out]; omega) (by unfold maxLen; omega) (Nat.le_refl _) ?_; intro w4 hown4 hg4; obtain ⟨X, HX, x9, hbX, hsX⟩ := boxes1 w4 #[.slice (some ⟨w2.heap.size, 0, none⟩) n n] 39; have hX := HX.out)
    clear hX
    have em := made_flat (cell := icell) (size := 1) (x0 := (0 : Int)) (by decide) (Value.int .i64 0).cells rfl n
    rw [em] at hown4
    clear em
    have hown4' : w4.ownsRow w2.heap.size 3 1 (.slice (some ⟨w2.heap.size, 0, none⟩) n n) n (flat 1 icell (Dg.fl n fun _ => ((0 : Nat) : Int))) := by
      rw [show Dg.fl n (fun _ => ((0 : Nat) : Int)) = List.replicate n 0 by unfold Dg.fl; rw [List.map_const', List.length_range]; rfl]
      exact hown4
    clear hown4
    have hb4 : Below w2.heap.size w2 w4 := (Below.refl _ _).grown hg4 (Nat.le_refl _) (by simp)
    have BX : Below w2.heap.size w2 X := hb4.trans (hbX.mono hb4.size)
    have hownX := own_below hown4' hbX
    have hs9 := (own_lt hown4').2
    have kQ := dpGroups_ok bg _ n (M.rows ps l) arcs X (ht.kept (after_ hb2 BX)) (hdg.next BX) hR
    refine kQ.mono ?_
    rintro e w3 ⟨v, ls, rfl, hlo, hls, hb3⟩
    clear kQ
    obtain ⟨A1, c1, rfl⟩ := hlo.slice
    have B3 := after_ BX hb3
    have ds0 : DS w2 w3 X.heap.size n w2.heap.size w4.heap.size (fun _ => 0) (.slice A1 ls.length c1) ls := ⟨B3, hlo, x9.below hb3, own_below hownX hb3⟩
    have hxX : w4.heap.size < X.heap.size := x9.lt
    have hX3 := hb3.size
    have HOL : Hid (∀ v ∈ Dg.ord (M.rows ps l), v < n) := Lib.hid (fun v hv => by
      have := (Dg.mem_leads.1 ((Dg.ord_mem hR).1 hv)).1
      rwa [HRL.out, HN.out] at this)
    have hol : (Dg.ord (M.rows ps l)).length ≤ 512 := by
      have h1 := (Dg.ord_perm hR).length_eq
      have h2 := Dg.leads_len (M.rows ps l)
      have h3 := HRL.out
      have h4 := HN.out
      omega
    have HSC : Hid (∀ v, v < n → ∀ x ∈ Bs.els (Dg.scc (M.rows ps l) v) 0, x < n) := Lib.hid (fun v hv x hx => by
      have hv' : v < (M.rows ps l).length := by rw [HRL.out, HN.out]; exact hv
      have := ((Dg.scc_bit hR hv' x).1 ((Bs.mem_els (Dg.scc_fit hR v)).1 hx)).1.lt hR hv'
      rwa [HRL.out, HN.out] at this)
    have HWT : Hid (∀ v, v < n → ∀ x ∈ Bs.els (Dg.wt (M.rows ps l) v) 0, x < n) := Lib.hid (fun v hv x hx => by
      have hv' : v < (M.rows ps l).length := by rw [HRL.out, HN.out]; exact hv
      have h1 := (Bs.mem_els (Bs.fit_dif _ (Dg.nx_fit hR _))).1 hx
      obtain ⟨⟨a, h2, h3⟩, -⟩ := (Dg.wt_bit hR hv' x).1 h1
      have := hR.fit _ _ h3
      rwa [HRL.out, HN.out] at this)
    have HD0 : Hid (Dg.dpt (M.rows ps l) (Dg.ord (M.rows ps l)) (fun _ => 0) 0 = Dg.depth (M.rows ps l)) := Lib.hid rfl
    have HRN : Hid ((M.rows ps l).length = n) := Lib.hid (HRL.out.trans HN.out)
    generalize Dg.ord (M.rows ps l) = od at *
    have hlm : ls.length = od.length := by rw [← List.length_map (f := (·.xs)), hls, List.length_map]
    have HLM := Lib.hid hlm
    rw [← hlm] at hol
    have HLS := Lib.hid hls
    clear hlm hls
    have HS : Hid (w2.heap.size ≤ w2.heap.size ∧ w2.heap.size < w4.heap.size ∧ w4.heap.size < X.heap.size ∧ X.heap.size ≤ w3.heap.size) := Lib.hid ⟨Nat.le_refl _, hs9, hxX, hX3⟩
    clear hs9 hxX hX3 hlo hb3 hownX hbX hb4 BX hown4' x9 hg4 B3 HX hsX hGO hg
    generalize X.heap.size = base at *
    generalize hb9e : w4.heap.size = b9 at *
    clear hb9e
    go_wp2_with fail
    refine wp_loop_mrg [8, 11, 12, 13, 15, 31, 32, 33, 34, 35, 36, 37, 38, 39, 40, 41, 42, 43, 44, 45, 46, 47, 48, 49, 50, 51, 52, 53, 54, 55, 56, 57, 58, 59, 60, 61, 62] (fun mm f ds W0 => ∃ (i : Nat) (D : Nat → Nat) (g : Nat), f 31 = .int .i64 i ∧ f 8 = .int .i64 (g : Nat) ∧ mm = ls.length - i ∧ i ≤ ls.length ∧ DS w2 W0 base n w2.heap.size b9 D (.slice A1 ls.length c1) ls ∧ base ≤ W0.heap.size ∧ Hid ((∀ x, D x ≤ i) ∧ g ≤ i ∧ Dg.dpt (M.rows ps l) (od.drop i) D g = Dg.depth (M.rows ps l)) ∧ Marks w2.heap.size W0.heap.size ds W0) ls.length ⟨0, fun _ => 0, 0, rfl, rfl, rfl, Nat.zero_le _, ds0, HS.out.2.2.2, Lib.hid ⟨fun _ => Nat.le_refl _, Nat.le_refl _, HD0.out⟩, Marks.none_⟩ ?_
    clear ds0
    intro c2' T2' hc2 hT2
    rintro mm f ds W0 ⟨i, D, gr, hf31, hf8, rfl, hi, hds, hbs, HD, hM⟩
    replace hc2 := hc2.out
    subst hc2
    replace hT2 := hT2.out
    subst hT2
    generalize hF : mrgF _ 0 _ _ = F
    simp only [mrg_hit, mrg_miss, mrg_end, Nat.reduceBEq, Nat.reduceAdd] at hF
    rw [hf31, hf8] at hF
    subst hF
    by_cases hlt : i < ls.length
    · have x0 : (0 : Int) ≤ (i : Int) := by omega
      have x1 : (i : Int) < (ls.length : Int) := by omega
      have q0 : decide ((i : Int) < (ls.length : Int)) = true := decide_eq_true x1
      have hio : i < od.length := by rw [← HLM.out]; exact hlt
      obtain ⟨VA, vc, hel⟩ : ∃ VA vc, ls[i] = ⟨VA, vc, nints (Bs.els (Dg.scc (M.rows ps l) od[i]) 0)⟩ := by
        have e2 : (ls.map (·.xs))[i]'(by simpa using hlt) = ls[i].xs := by simp
        have e1 := HLS.out
        simp only [e1, List.getElem_map] at e2
        exact ⟨ls[i].A, ls[i].c, by rw [show nints _ = ls[i].xs from e2]⟩
      have hvn := HOL.out od[i] (List.getElem_mem hio)
      have HXL := Lib.hid (HSC.out od[i] hvn)
      have HYL := Lib.hid (HWT.out od[i] hvn)
      have hsl := Bs.els_len (Dg.scc (M.rows ps l) od[i]) 0
      have HSTEP : Hid (Dg.dpt (M.rows ps l) (od.drop i) D gr = Dg.dpt (M.rows ps l) (od.drop (i + 1)) (Dg.deep (M.rows ps l) D od[i]) (max gr (Dg.top D (Bs.els (Dg.wt (M.rows ps l) od[i]) 0) + 1))) := Lib.hid (by rw [List.drop_eq_getElem_cons hio]; rfl)
      have HDEEP : Hid (Dg.deep (M.rows ps l) D od[i] = fun x => if x ∈ Bs.els (Dg.scc (M.rows ps l) od[i]) 0 then Dg.top D (Bs.els (Dg.wt (M.rows ps l) od[i]) 0) + 1 else D x) := Lib.hid (by
        funext x
        unfold Dg.deep
        have := Bs.mem_els (Dg.scc_fit hR od[i]) (x := x)
        by_cases hx : x ∈ Bs.els (Dg.scc (M.rows ps l) od[i]) 0
        · rw [if_pos hx, if_pos (this.1 hx)]
        · rw [if_neg hx, if_neg (fun h => hx (this.2 h))])
      have hin0 := (hds.lo.ll).inner _ (List.getElem_mem hlt)
      obtain ⟨la, hla, hlb, a0⟩ := hds.lo.ll.outer.one_at hlt
      rw [hel] at a0 hin0
      have e3 : ∀ vs, slcell ⟨VA, vc, nints vs⟩ 0 = .slice VA vs.length vc := fun vs => by unfold slcell; rw [nints_len]
      rw [e3] at a0
      clear e3
      have HEL := Lib.hid hel
      clear hel
      have kNx := fun W (hb : Below W0.heap.size W0 W) => dpNext_ok bg _ n (M.rows ps l) arcs VA vc (Bs.els (Dg.scc (M.rows ps l) od[i]) 0) W (hdg.next (after_ hds.bel hb)) hR (fun x hx => by rw [HRN.out]; exact HXL.out x hx) ((hin0.below hb).more hb.size) (by omega)
      rw [nextF_part hR] at kNx
      subst hla
      obtain ⟨X1, HX1, x12, hbX1, hsX1⟩ := boxes1 W0 #[.int .i64 0] 3
      have kN1 := kNx X1 hbX1
      have hX1 := HX1.out
      clear hsX1 kNx
      have hsl2 := Bs.els_len (Dg.wt (M.rows ps l) od[i]) 0
      generalize Bs.els (Dg.scc (M.rows ps l) od[i]) 0 = vs at *
      generalize Dg.wt (M.rows ps l) od[i] = ws at *
      have HNL : Hid ((Value.slice (some la) ls.length c1).ownBlock ≠ some W0.heap.size ∧ ∀ s ∈ ls, (Value.slice s.A s.xs.length s.c).ownBlock ≠ some W0.heap.size) := Lib.hid ⟨fun e => by have := (hds.lo.outer.lt _ e).2; omega, fun s hs e => by have := ((hds.lo.inner s hs).lt _ e).2; omega⟩
      have h9W : b9 < W0.heap.size := hds.x9.lt
      have hsm := x12.same (i := 0) (v := .int .i64 0) rfl
      have c12 := x12.c1
      have f12 := x12.frozen 0
      have hds1 := hds.next hbX1
      have hM1 := hM.below hbX1
      go_wp2_with fail
      clear hX1 a0 hsm c12 f12
      refine kN1.mono ?_
      rintro e w5 ⟨rfl, hb5⟩
      clear kN1
      have hds5 := hds1.next hb5
      have hM5 := hM1.below hb5
      have y12 := x12.below hb5
      go_wp2_with fail
      refine (bsAll_ok ws w5).mono ?_
      rintro e w6 ⟨rfl, hb6, hs6, xb⟩
      have hds6 := hds5.next hb6
      have hM6 := hM5.below hb6
      have z12 := y12.below hb6
      have l12 : W0.heap.size < w5.heap.size := y12.lt
      have hM6' := hM6.more (C' := w6.heap.size) (by have := hbX1.size; have := hb5.size; have := hb6.size; omega)
      clear hds1 hds5 hM1 hM5 x12 y12 hM6
      go_wp2_with fail
      refine wp_range (gf := 54) (lb := #[.pointer (some ⟨w5.heap.size, 0, none⟩)]) rfl (enters_of Tryd.func54 (by kernel_rfl) rfl) (bsAll_seq w5.heap.size ws) (fun _ => rfl)
        (fun pre W => DS w2 W base n w2.heap.size b9 D (.slice (some la) ls.length c1) ls ∧ Box W W0.heap.size #[.int .i64 (Dg.top D pre : Nat)] 3 ∧ Box W w5.heap.size (bsc ws) 80 ∧ Marks w2.heap.size w6.heap.size ds W) (fun _ _ _ => False)
        ?hI (fun _ _ _ _ _ h => h.elim) ?hK ⟨hds6, z12, xb, hM6'⟩ ?round ?done (fun _ _ _ h => h.elim)
      case hI => exact fun pre W W' row ⟨h1, h2, h3, h4⟩ hg hr => ⟨h1.own hds6.bel.size hg hr, h2.own hg hr, h3.own hg hr, h4.own (Nat.le_refl _) hg hr⟩
      case hK => exact fun pre W ⟨h1, h2, h3, h4⟩ => ⟨h3, ht.kept (after_ hb2 h1.bel)⟩
      case round =>
        clear z12 xb
        intro r' pre x post W hL hl' hd hi'
        gi_wp2
        refine ⟨hl', hd, hi', fun _ => True, fun _ _ _ _ _ _ _ => trivial, trivial, ?_⟩
        clear hl' hd hi'
        rintro r'' W2 hl' hd ⟨h1, h2, h3, h4⟩ -
        have hxn := HYL.out x (by rw [hL]; simp)
        have HT : Hid (Dg.top D (pre ++ [x]) = max (Dg.top D pre) (D x)) := Lib.hid (Dg.top_snoc D pre x)
        have ht1 := Dg.top_le (D := D) (b := i) pre (fun y _ => HD.out.1 y)
        have ht2 := HD.out.1 x
        clear hL
        obtain ⟨D9, F9⟩ := h1.at hxn
        have E9 := h1.x9.c1
        have E12 := h2.c1
        have F12 := h2.frozen 0
        have lx12 : W0.heap.size < W2.heap.size := h2.lt
        have lx9 : b9 < W2.heap.size := h1.x9.lt
        have lg9 : w2.heap.size < W2.heap.size := (own_lt h1.o9).2
        have y0 : (0 : Int) ≤ (x : Int) := by omega
        have y1 : (x : Int) < (n : Int) := by omega
        generalize Dg.top D pre = tp at *
        generalize D x = dx at *
        gi_wp2_with fail
        refine wpIn_region_kept_tail 5 W2.heap.size W2 (by kernel_rfl) (by kernel_rfl) (by kernel_rfl) (Below.refl _ _) ?_
        simp only [List.take_succ_cons, List.take_zero, List.drop_succ_cons, List.drop_zero]
        repeat (go_big_quiet_step (fail))
        refine wpQuiet_nil ?_
        rintro w7 ⟨⟨_, hb7⟩, rfl⟩
        have k1 := h1.next hb7
        have k2 := h2.below hb7
        have k3 := h3.below hb7
        have k4 := h4.below hb7
        have hl7 := hl'.below hb7
        have hd7 := hd.below hb7
        clear E12 F12 D9 F9 E9
        have E12 := k2.c1
        have F12 := k2.frozen 0
        go_wp2_with fail
        change _ ∧ _ ∧ _
        have HMX : Hid (((max tp dx : Nat) : Int) = max (tp : Int) (dx : Int)) := Lib.hid (by omega)
        rw [HT.out]
        refine ⟨hl7.set_other (p := ⟨W0.heap.size, 0, none⟩) (hl7.ne_box rfl k2) _, hd7.set_other (p := ⟨W0.heap.size, 0, none⟩) (hd7.ne_box rfl k2) _, k1.cell ⟨Nat.le_refl _, HS.out.2.1⟩ h9W HNL.out.1 HNL.out.2 _, ?_, k3.set_other (p := ⟨W0.heap.size, 0, none⟩) (by dsimp only; omega) _, k4.set_other (i := 0) k2 _⟩
        rw [HMX.out]
        exact k2.set 0 _
      case done =>
        rintro W ⟨h1, h2, h3, h4⟩ hD
        have hMf := h4.cons (C := w6.heap.size) (D := w6.heap.size) hds6.bel.size (Nat.le_refl _) hD
        have hDl := hD.lt
        have htop := Dg.top_le (D := D) (b := i) (Bs.els ws 0) (fun y _ => HD.out.1 y)
        generalize Dg.top D (Bs.els ws 0) = tp at *
        have HMEM : Hid (∀ (k : Nat) (hk : k < vs.length), (fun j => if j = vs[k] then tp + 1 else (if j ∈ vs.take k then tp + 1 else D j)) = fun x => if x ∈ vs.take (k + 1) then tp + 1 else D x) := Lib.hid (fun k hk => take_if vs k hk (tp + 1) D)
        have hds0 : DS w2 W base n w2.heap.size b9 (fun x => if x ∈ vs.take 0 then tp + 1 else D x) (.slice (some la) ls.length c1) ls := by simpa using h1
        clear h1 h3 h4 hD z12 xb hds6 hM6' hs6
        go_wp2_with fail
        refine wp_loop_mrg [15, 48, 49, 50, 51, 52, 53, 54, 55, 56, 57] (fun mm f ds W1 => ∃ (j : Nat), f 48 = .int .i64 j ∧ mm = vs.length - j ∧ j ≤ vs.length ∧ DS w2 W1 base n w2.heap.size b9 (fun x => if x ∈ vs.take j then tp + 1 else D x) (.slice (some la) ls.length c1) ls ∧ Box W1 W0.heap.size #[.int .i64 (tp : Nat)] 3 ∧ Marks w2.heap.size (w6.heap.size + 1) ds W1 ∧ w6.heap.size < W1.heap.size) vs.length ⟨0, rfl, rfl, Nat.zero_le _, hds0, h2, hMf, hDl⟩ ?_
        clear hds0 h2 hMf hDl
        intro c3' T3' hc2 hT2
        rintro mm f ds2 W1 ⟨j, hf48, rfl, hj, hd1, h12, hM2, hsz⟩
        replace hc2 := hc2.out
        subst hc2
        replace hT2 := hT2.out
        subst hT2
        generalize hF : mrgF _ 0 _ _ = F
        simp only [mrg_hit, mrg_miss, mrg_end, Nat.reduceBEq, Nat.reduceAdd] at hF
        rw [hf48] at hF
        subst hF
        by_cases hjl : j < vs.length
        · have hin1 := hd1.lo.ll.inner _ (List.getElem_mem hlt)
          rw [HEL.out] at hin1
          obtain ⟨lb, hlb1, hlb2, b0⟩ := hin1.int_at (k := j) (by rw [nints_len]; exact hjl)
          rw [show (nints vs)[j]'(by rw [nints_len]; exact hjl) = ((vs[j] : Nat) : Int) by unfold nints; rw [List.getElem_map]] at b0
          have hvj := HXL.out vs[j] (List.getElem_mem hjl)
          have hst := hd1.set ⟨Nat.le_refl _, HS.out.2.1⟩ HS.out.2.2.1 hvj (tp + 1)
          rw [HMEM.out j hjl] at hst
          obtain ⟨D9, F9⟩ := hd1.at hvj
          have HST := Lib.hid hst
          clear hst
          have E9 := hd1.x9.c1
          have E12 := h12.c1
          have x3 : (0 : Int) ≤ (j : Int) := by omega
          have x4 : (j : Int) < (vs.length : Int) := by omega
          have q4 : decide ((j : Int) < (vs.length : Int)) = true := decide_eq_true x4
          have y0 : (0 : Int) ≤ (vs[j] : Int) := by omega
          have y1 : (vs[j] : Int) < (n : Int) := by omega
          generalize vs[j] = v at *
          subst hlb1
          go_wp2_with fail
          have hst := HST.out
          exact ⟨rfl, vs.length - (j + 1), by omega, j + 1, rfl, rfl, hjl, hst, h12.set_other (p := ⟨w2.heap.size, v, none⟩) (by have := h9W; have := HS.out.2.1; dsimp only; omega) _, hM2.set_own hd1.o9 _⟩
        · obtain rfl : j = vs.length := by omega
          have q4 : decide ((vs.length : Int) < (vs.length : Int)) = false := decide_eq_false (by omega)
          rw [List.take_length] at hd1
          have E12 := h12.c1
          have hgr := HD.out.2.1
          have HMX : Hid (((max gr (tp + 1) : Nat) : Int) = max (gr : Int) ((tp : Int) + 1)) := Lib.hid (by omega)
          have HN2 : Hid (Hid ((∀ x, (fun x => if x ∈ vs then tp + 1 else D x) x ≤ i + 1) ∧ max gr (tp + 1) ≤ i + 1 ∧ Dg.dpt (M.rows ps l) (od.drop (i + 1)) (fun x => if x ∈ vs then tp + 1 else D x) (max gr (tp + 1)) = Dg.depth (M.rows ps l))) := Lib.hid (Lib.hid ⟨fun x => by
            have := HD.out.1 x
            show (if x ∈ vs then tp + 1 else D x) ≤ i + 1
            split <;> omega, by omega, by
            have h1 := HD.out.2.2
            rw [HSTEP.out, HDEEP.out] at h1
            exact h1⟩)
          have hbW : base ≤ W1.heap.size := by have := hb6.size; omega
          have hMf := hM2.more (C' := W1.heap.size) (by omega)
          go_wp2_with fail
          exact ⟨rfl, ls.length - (i + 1), by omega, i + 1, rfl, (fun x => if x ∈ vs then tp + 1 else D x), max gr (tp + 1), by rw [HMX.out]; rfl, rfl, hlt, hd1, HN2.out⟩
    · obtain rfl : i = ls.length := by omega
      have q0 : decide ((ls.length : Int) < (ls.length : Int)) = false := decide_eq_false (by omega)
      have HE : Hid (Dg.depth (M.rows ps l) = gr) := Lib.hid (by
        have h1 := HD.out.2.2
        rw [HLM.out, List.drop_length] at h1
        exact h1.symm)
      have hBf := after_ hb2 hds.bel
      go_wp2_with fail
      refine leaves_marks (B := w2.heap.size) _ _ hM (fun W' hs => ⟨.tuple #[.int .i64 (gr : Nat), .int .i64 0], by simp [results, Tryd.results19, go_sem], ⟨0, HER.out, .inr ⟨rfl, by rw [HE.out]⟩⟩, hBf.trans (hs.below.mono hb2.size)⟩)
end Go.Proofs.YtceobfigfmnacaaDoor
end
