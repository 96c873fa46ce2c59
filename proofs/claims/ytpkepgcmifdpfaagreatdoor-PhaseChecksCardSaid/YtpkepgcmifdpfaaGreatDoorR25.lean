/- A bundle of texts: Gr7, Gr8, Gr9, Ed1, Ed2, RdT, Rd1. -/
import Derived.Test.YtpkepgcmifdpfaaGreatDoorR24
import Derived.Test.YtpkepgcmifdpfaaGreatDoorR03
import Derived.WalkMore
import Derived.Test.YtpkepgcmifdpfaaGreatDoorR18
import Derived.Test.YtpkepgcmifdpfaaGreatDoorR19
import Derived.Test.YtpkepgcmifdpfaaGreatDoorR04
import Derived.Test.YtpkepgcmifdpfaaGreatDoorR07
section
namespace Go.Proofs.YtpkepgcmifdpfaaGreatDoor
open Go Go.RowKit
set_option maxRecDepth 100000
def blc (b : Bool) (_ : Nat) : Value := .bool b
theorem blInfo : (Tryz.prog.info? 4).map (fun i => (i.zero, i.size, i.bytes)) = some (some (.bool false), 1, 1) := by kernel_rfl
def dn (m : Nat) (D : List Nat) : List Bool := (List.range m).map fun j => decide (j ∈ D)
theorem dn_len (m : Nat) (D : List Nat) : (dn m D).length = m := by simp [dn]
theorem dn_at {m : Nat} (D : List Nat) {k : Nat} (h : k < (dn m D).length) : (dn m D)[k] = decide (k ∈ D) := by simp [dn]
theorem dn_nil (m : Nat) : List.replicate m false = dn m [] := by unfold dn; simp [List.map_const']
theorem dn_set {m : Nat} (D : List Nat) {p : Nat} : (dn m D).set p true = dn m (D ++ [p]) := by
  apply List.ext_getElem
  · simp [dn_len]
  · intro i h1 h2
    rw [List.getElem_set, dn_at D (by simpa using h1), dn_at (D ++ [p]) h2]
    by_cases e : p = i
    · subst e; simp
    · rw [if_neg e]
      have : ¬ i = p := fun h => e h.symm
      simp [this]
def wts (R : List Nat) (m : Nat) : List Nat := (List.range m).map fun k => Dg.wt R (Dg.ld R k)
theorem wts_len (R : List Nat) (m : Nat) : (wts R m).length = m := by simp [wts]
theorem wts_at (R : List Nat) {m k : Nat} (h : k < (wts R m).length) : (wts R m)[k] = Dg.wt R (Dg.ld R k) := by simp [wts]
theorem LO.slice {W : World} {base : Nat} {v : Value} {ls : List SLc} (h : LO W base v ls) : ∃ A c, v = .slice A ls.length c := by
  rcases h.outer.2 with ⟨rfl, h0⟩ | ⟨g, cap, cur, rfl, _⟩
  · exact ⟨none, 0, by rw [h0]⟩
  · exact ⟨_, _, rfl⟩
theorem own8r {w : World} {base g n : Nat} {cs : List Nat} (h : w.ownsRow base 169 8 (.slice (some ⟨g, 0, none⟩) n n) n (flat 8 bscell cs)) {k : Nat} (hk : k < cs.length) {r : Nat} (hr : cs[k] = r) :
    w.cell? ⟨g, k * 8, none⟩ = some (.int .u64 (Bs.wd r 0 : Nat)) ∧ w.cell? ⟨g, k * 8 + 1, none⟩ = some (.int .u64 (Bs.wd r 1 : Nat)) ∧ w.cell? ⟨g, k * 8 + 2, none⟩ = some (.int .u64 (Bs.wd r 2 : Nat)) ∧ w.cell? ⟨g, k * 8 + 3, none⟩ = some (.int .u64 (Bs.wd r 3 : Nat)) ∧ w.cell? ⟨g, k * 8 + 4, none⟩ = some (.int .u64 (Bs.wd r 4 : Nat)) ∧ w.cell? ⟨g, k * 8 + 5, none⟩ = some (.int .u64 (Bs.wd r 5 : Nat)) ∧ w.cell? ⟨g, k * 8 + 6, none⟩ = some (.int .u64 (Bs.wd r 6 : Nat)) ∧ w.cell? ⟨g, k * 8 + 7, none⟩ = some (.int .u64 (Bs.wd r 7 : Nat)) := by
  subst hr
  have h2 := fun j (hj : j < 8) => own_at h hk hj
  exact ⟨(h2 0 (by decide)).1, (h2 1 (by decide)).1, (h2 2 (by decide)).1, (h2 3 (by decide)).1, (h2 4 (by decide)).1, (h2 5 (by decide)).1, (h2 6 (by decide)).1, (h2 7 (by decide)).1⟩
structure GS (wS W : World) (R : List Nat) (m gW bL gD : Nat) (D : List Nat) (lst : Nat) (vO : Value) (os : List SLc) : Prop where
  bel : Below wS.heap.size wS W
  ow : W.ownsRow wS.heap.size 169 8 (.slice (some ⟨gW, 0, none⟩) m m) m (flat 8 bscell (wts R m))
  bx : Box W bL (bsc lst) 169
  od : W.ownsRow wS.heap.size 4 1 (.slice (some ⟨gD, 0, none⟩) m m) m (flat 1 blc (dn m D))
  oo : W.ownsRow wS.heap.size 29 1 vO os.length (flat 1 slcell os)
section
variable {wS W W' : World} {R : List Nat} {m gW bL gD : Nat} {D : List Nat} {lst : Nat} {vO : Value} {os : List SLc}
theorem GS.next (h : GS wS W R m gW bL gD D lst vO os) (hb : Below W.heap.size W W') : GS wS W' R m gW bL gD D lst vO os :=
  ⟨after_ h.bel hb, own_below h.ow hb, h.bx.below hb, own_below h.od hb, own_below h.oo hb⟩
theorem GS.at (h : GS wS W R m gW bL gD D lst vO os) {k : Nat} (hk : k < m) : W.cell? ⟨gD, k, none⟩ = some (.bool (decide (k ∈ D))) ∧ W.frozen? ⟨gD, k, none⟩ = false := by
  have := own_at (size := 1) (cell := blc) h.od (k := k) (j := 0) (by rw [dn_len]; exact hk) (by decide)
  rw [Nat.mul_one, Nat.add_zero, dn_at] at this
  exact this
theorem GS.setD (h : GS wS W R m gW bL gD D lst vO os) (hs : gW < bL ∧ bL < gD ∧ wS.heap.size ≤ gW) {p : Nat} (hp : p < m) : GS wS (W.setCell ⟨gD, p, none⟩ (.bool true)) R m gW bL gD (D ++ [p]) lst vO os := by
  refine ⟨h.bel.setCell (p := ⟨gD, p, none⟩) (by dsimp only; omega) _, h.ow.kept (grown_set W gD p _) (.inr (fun e => by have e2 : gW = gD := Option.some.inj e; omega)), h.bx.set_other (by dsimp only; omega) _, ?_, h.oo.kept (grown_set W gD p _) (own_ne h.oo h.od (by decide))⟩
  have h3 := own_set (size := 1) (cell := blc) h.od (k := p) (by rw [dn_len]; exact hp) (j := 0) (y := true) (u := .bool true) (by decide) rfl (fun j' h1 h2 => absurd h1 (by omega))
  rw [Nat.mul_one, Nat.add_zero, dn_set] at h3
  exact h3
theorem GS.setL (h : GS wS W R m gW bL gD D lst vO os) (hs : gW < bL ∧ bL < gD ∧ wS.heap.size ≤ gW) {lst' : Nat} {Y : World} (hg : W.grownBy Y (some bL)) (z : Box Y bL (bsc lst') 169) : GS wS Y R m gW bL gD D lst' vO os :=
  ⟨h.bel.grown hg h.bel.size (fun k e => by cases e; omega), h.ow.kept hg (.inr (fun e => by have e2 : gW = bL := Option.some.inj e; omega)), z, h.od.kept hg (.inr (fun e => by have e2 : gD = bL := Option.some.inj e; omega)), h.oo.kept hg (.inr (h.bx.ne_own (by decide) h.oo).symm)⟩
theorem GS.push (h : GS wS W R m gW bL gD D lst vO os) {v' : Value} {s : SLc} (hb : Below wS.heap.size wS W') (ho : W'.ownsRow wS.heap.size 29 1 v' (os.length + 1) (flat 1 slcell (os ++ [s]))) (hg : W.grownBy W' vO.ownBlock) : GS wS W' R m gW bL gD D lst v' (os ++ [s]) :=
  ⟨hb, h.ow.kept hg (own_ne h.ow h.oo (by decide)), h.bx.grown hg (h.bx.ne_own (by decide) h.oo), h.od.kept hg (own_ne h.od h.oo (by decide)), by rw [List.length_append]; exact ho⟩
end
theorem grpl_at (R : List Nat) {k : Nat} (h : k < (Dg.grpl R).length) : (Dg.grpl R)[k] = nints (Bs.els (Dg.scc R (Dg.ld R k)) 0) := by
  have hk : k < (Dg.leads R).length := by simpa [Dg.grpl] using h
  simp only [Dg.grpl, List.getElem_map]
  rw [Dg.ld_at hk]
  rfl
set_option maxHeartbeats 32000000 in
theorem dpGroups_ok (bg : Nat) (A : Option Addr) (c : Nat) (R : List Nat) (arcs : Int) (w : World) (ht : Tab64 w) (h : DG w bg A c R arcs) (hR : Dg.Ok R) : Calls Tryz.prog 103 #[gp bg] w fun e w' => ∃ (v : Value) (ls : List SLc), e = .returned v ∧ LO w' w.heap.size v ls ∧ ls.map (·.xs) = (Dg.ord R).map (fun v => bsl (Bs.els (Dg.scc R v) 0)) ∧ Below w.heap.size w w' := by
  obtain ⟨i8, hi8, hz0, hz1, hz2⟩ := info_parts bsInfo
  have Hi8 := Lib.hid hi8; have Hz08 := Lib.hid hz0; have Hz18 := Lib.hid hz1; have Hz28 := Lib.hid hz2
  clear hi8 hz0 hz1 hz2
  obtain ⟨ib, hib, hzb0, hzb1, hzb2⟩ := info_parts blInfo
  have Hib := Lib.hid hib; have Hzb0 := Lib.hid hzb0; have Hzb1 := Lib.hid hzb1; have Hzb2 := Lib.hid hzb2
  clear hib hzb0 hzb1 hzb2
  obtain ⟨il, hil, hzl0, hzl1, hzl2⟩ := info_parts slInfo
  have Hil := Lib.hid hil; have Hzl0 := Lib.hid hzl0; have Hzl1 := Lib.hid hzl1; have Hzl2 := Lib.hid hzl2
  clear hil hzl0 hzl1 hzl2
  have kC := dgComp_ok bg A c R arcs w ht h hR
  have hl := hR.len
  have hml := Dg.leads_len R
  obtain ⟨m, hm⟩ : ∃ m, (Dg.leads R).length = m := ⟨_, rfl⟩
  have HM := Lib.hid hm
  have hm512 : m ≤ 512 := by omega
  clear hm hl hml
  go_enter Tryz.func103, Tryz.ntmps103
  go_wp2_with fail
  go_step3
  go_wp2_with fail
  refine kC.mono ?_
  rintro e w1 ⟨v, ls, C, rfl, hlo, hmp, hC, hb1⟩
  clear kC
  obtain ⟨A1, c1, rfl⟩ := hlo.slice
  have kS := dgSorted_ok A1 c1 w.heap.size ls C R w1 hR hlo hmp hC
  have hlsm : ls.length = m := by
    have := (Dg.comp_perm hmp hC).length_eq
    rw [List.length_map] at this
    rw [this, ← HM.out]
    simp [Dg.grpl]
  rw [hlsm] at kS ⊢
  clear hlo hmp hC hlsm
  go_wp2_with fail
  refine kS.mono ?_
  rintro e w2 ⟨rfl, ls', hlo, hls, hb2⟩
  clear kS
  have B2 : Below w.heap.size w w2 := hb1.trans hb2
  have hlsm : ls'.length = m := by
    have := congrArg List.length hls
    rw [List.length_map] at this
    rw [this, ← HM.out]
    simp [Dg.grpl]
  have HLS : Hid (ls'.length = m ∧ ls'.map (·.xs) = Dg.grpl R) := Lib.hid ⟨hlsm, hls⟩
  rw [hlsm] at hlo
  clear hls hlsm hb2 hb1
  have hLL : LL w2 A1 ls' := by
    have := hlo
    rw [← HLS.out.1] at this
    exact this.ll
  go_wp2_with (at_make; refine wpList_make_full _ rfl _ _ 213 rfl w2.heap.size 169 i8 _ 8 Tryz.underlying213 Hi8.out Hz08.out Hz18.out .i64 .i64 _ _ m rfl rfl rfl rfl (by rw [Hz28.out]; omega) (by unfold maxLen; omega) (Nat.le_refl _) ?_; intro w3 hown3 hg3)
  have em := made_flat (cell := bscell) (size := 8) (x0 := 0) (by decide) (Value.agg #[.int .u64 0, .int .u64 0, .int .u64 0, .int .u64 0, .int .u64 0, .int .u64 0, .int .u64 0, .int .u64 0]).cells (by simp [Value.cells, bscell0, List.range_succ]) m
  rw [em] at hown3
  clear em
  have hb3 : Below w2.heap.size w2 w3 := (Below.refl _ _).grown hg3 (Nat.le_refl _) (by simp)
  have hs3 := (own_lt hown3).2
  have e0 : List.replicate m 0 = mixTo (fun k => Dg.wt R (Dg.ld R k)) (fun _ => 0) (List.range m) 0 := by rw [mixTo_zero, List.map_const', List.length_range]
  rw [e0] at hown3
  clear e0 hg3
  go_loopw [5, 6, 23] (fun _ _ i wr => ∃ k : Nat, k ≤ m ∧ i = .int .i64 k ∧ Below w2.heap.size w2 wr ∧ wr.ownsRow w2.heap.size 169 8 (.slice (some ⟨w2.heap.size, 0, none⟩) m m) m (flat 8 bscell (mixTo (fun k => Dg.wt R (Dg.ld R k)) (fun _ => 0) (List.range m) k))) (fun _ _ i _ => m - (intOf i).toNat)
  case atStart => exact ⟨0, Nat.zero_le _, rfl, hb3, hown3⟩
  case round =>
    clear hown3 hb3
    obtain ⟨k, hk, rfl, hBr, hown⟩ := hrel
    by_cases hlt : k < m
    · have hkl : k < ls'.length := by rw [HLS.out.1]; exact hlt
      have hkm : k < (Dg.leads R).length := by rw [HM.out]; exact hlt
      have hLr := hLL.next hBr
      obtain ⟨la, hla, hlb, a0⟩ := hLr.outer.one_at hkl
      have hin := hLr.inner _ (List.getElem_mem hkl)
      have hxs : ls'[k].xs = nints (Bs.els (Dg.scc R (Dg.ld R k)) 0) := by
        have e1 := HLS.out.2
        have e2 : (ls'.map (·.xs))[k]'(by simpa using hkl) = ls'[k].xs := by simp
        rw [← e2]
        simp only [e1]
        exact grpl_at R _
      have e3 : slcell ls'[k] 0 = .slice ls'[k].A (Bs.els (Dg.scc R (Dg.ld R k)) 0).length ls'[k].c := by unfold slcell; rw [hxs, nints_len]
      rw [e3] at a0
      rw [hxs] at hin
      clear e3 hxs
      have hvl := (Dg.mem_leads.1 (Dg.ld_in hkm)).1
      have hfit := Dg.scc_fit hR (Dg.ld R k)
      have kN := dpNext_ok bg A c R arcs ls'[k].A ls'[k].c (Bs.els (Dg.scc R (Dg.ld R k)) 0) wr (h.next (after_ B2 hBr)) hR (fun x hx => ((Dg.scc_bit hR hvl x).1 ((Bs.mem_els hfit).1 hx)).1.lt hR hvl) hin (by have := Bs.els_len (Dg.scc R (Dg.ld R k)) 0; omega)
      rw [nextF_part hR] at kN
      have hlk : k < (mixTo (fun k => Dg.wt R (Dg.ld R k)) (fun _ => 0) (List.range m) k).length := by rw [mixTo_length, List.length_range]; exact hlt
      have HPT : Hid (∀ w' : World, w'.ownsRow w2.heap.size 169 8 (.slice (some ⟨w2.heap.size, 0, none⟩) m m) m (flat 8 bscell (mixTo (fun k => Dg.wt R (Dg.ld R k)) (fun _ => 0) (List.range m) k)) → (setRun w' w2.heap.size (k * 8) ((List.range 8).map (bscell (Dg.wt R (Dg.ld R k))))).ownsRow w2.heap.size 169 8 (.slice (some ⟨w2.heap.size, 0, none⟩) m m) m (flat 8 bscell (mixTo (fun k => Dg.wt R (Dg.ld R k)) (fun _ => 0) (List.range m) (k + 1)))) := Lib.hid (fun w' ho => by
        have h1 := own_put (by decide) ho hlk (Dg.wt R (Dg.ld R k))
        have e1 := mixTo_succ (h := fun k => Dg.wt R (Dg.ld R k)) (f := fun _ => 0) (xs := List.range m) (k := k) (by rw [List.length_range]; exact hlt)
        rw [List.getElem_range] at e1
        rwa [e1] at h1)
      clear hin hvl hfit hkm
      have x0 : (0 : Int) ≤ (k : Int) := by omega
      have x1 : (k : Int) < (m : Int) := by omega
      have q0 : decide ((k : Int) < (m : Int)) = true := decide_eq_true x1
      generalize ls'[k].A = VA at *
      generalize ls'[k].c = vc at *
      generalize (Bs.els (Dg.scc R (Dg.ld R k)) 0).length = nl at *
      generalize Dg.wt R (Dg.ld R k) = rk at *
      subst hla
      go_wp2_with fail
      clear a0
      refine kN.mono ?_
      rintro e w5 ⟨rfl, hb5⟩
      have B5 := after_ hBr hb5
      have hown5 := own_below hown hb5
      obtain ⟨r, a0, a1, a2, a3, a4, a5, a6, a7, f0, f1, f2, f3, f4, f5, f6, f7⟩ := own8 hown5 hlk
      have hput := HPT.out w5 hown5
      clear HPT kN
      go_wp2_with fail
      have hbw := below_run8 (k := k * 8) B5 (Nat.le_refl _) (.int .u64 (Bs.wd rk 0 : Nat)) (.int .u64 (Bs.wd rk 1 : Nat)) (.int .u64 (Bs.wd rk 2 : Nat)) (.int .u64 (Bs.wd rk 3 : Nat)) (.int .u64 (Bs.wd rk 4 : Nat)) (.int .u64 (Bs.wd rk 5 : Nat)) (.int .u64 (Bs.wd rk 6 : Nat)) (.int .u64 (Bs.wd rk 7 : Nat))
      go_roundw
      case rel => exact ⟨k + 1, hlt, by go_num, hbw, hput⟩
      case measure => simp [intOf]; omega
    · obtain rfl : k = m := by omega
      have q0 : decide ((k : Int) < (k : Int)) = false := decide_eq_false (by omega)
      have e1 : mixTo (fun k => Dg.wt R (Dg.ld R k)) (fun _ => 0) (List.range k) k = wts R k := by
        have := mixTo_all (h := fun k => Dg.wt R (Dg.ld R k)) (f := fun _ => 0) (xs := List.range k)
        rw [List.length_range] at this
        rw [this]
        rfl
      rw [e1] at hown
      clear e1
      obtain ⟨V, HV, x8, hbV, hsV⟩ := boxes1 wr #[.int .u64 0, .int .u64 0, .int .u64 0, .int .u64 0, .int .u64 0, .int .u64 0, .int .u64 0, .int .u64 0] 169
      have HSV := Lib.hid hsV
      have BV := after_ hBr hbV
      have hownV := own_below hown hbV
      rw [← zero8] at x8
      have hV := HV.out
      clear hsV
      go_wp2_with (at_make; refine wpList_make_full _ rfl _ _ 104 rfl w2.heap.size 4 ib _ 1 Tryz.underlying104 Hib.out Hzb0.out Hzb1.out .i64 .i64 _ _ k rfl rfl rfl rfl (by rw [Hzb2.out]; omega) (by unfold maxLen; omega) BV.size ?_; intro w4 hown4 hg4)
      clear hV
      go_step3
      go_wp2_with fail
      have em := made_flat (cell := blc) (size := 1) (x0 := false) (by decide) (Value.bool false).cells rfl k
      rw [em, dn_nil] at hown4
      clear em
      have gs0 : GS w2 w4 R k w2.heap.size wr.heap.size V.heap.size [] 0 (.slice none 0 0) [] := ⟨BV.grown hg4 BV.size (by simp), hownV.kept hg4 (.inr (by simp [Value.ownBlock])), x8.grown hg4 (by simp), hown4, own_nil _ _ _ _ _⟩
      have HS : Hid (w2.heap.size < wr.heap.size ∧ wr.heap.size < V.heap.size ∧ w2.heap.size ≤ w2.heap.size) := Lib.hid ⟨(own_lt hown).2, x8.lt, Nat.le_refl _⟩
      clear x8 hownV hown4 hg4 hown BV hbV HSV HV
      generalize wr.heap.size = bL at *
      generalize V.heap.size = gD at *
      have HEL : Hid (∀ p, p < k → ∃ VA vc, elt ls' p = ⟨VA, vc, nints (Bs.els (Dg.scc R (Dg.ld R p)) 0)⟩) := Lib.hid (fun p hp => by
        have hpl : p < ls'.length := by rw [HLS.out.1]; exact hp
        have e2 : (ls'.map (·.xs))[p]'(by simpa using hpl) = ls'[p].xs := by simp
        have e3 : ls'[p].xs = nints (Bs.els (Dg.scc R (Dg.ld R p)) 0) := by
          rw [← e2]
          have e1 := HLS.out.2
          simp only [e1]
          exact grpl_at R _
        exact ⟨ls'[p].A, ls'[p].c, by rw [elt_at hpl, ← e3]⟩)
      refine wp_loop_mrg [7, 10, 11, 13, 38, 39, 40, 41, 42, 43, 44, 45, 46, 47, 48, 49, 50, 51, 52, 53, 54, 55, 56, 57, 58, 59, 60, 61, 62, 63, 64, 65, 66, 67, 68, 69, 70, 71, 72, 73, 74, 75, 76, 77, 78, 79, 80, 81, 82, 83] (fun mm f ds W0 => ds = [] ∧ ∃ (C : List Nat) (lst : Nat) (Ao : Option Addr) (co : Nat) (os : List SLc), f 7 = .slice Ao os.length co ∧ mm = k - C.length ∧ GS w2 W0 R k w2.heap.size bL gD C lst (.slice Ao os.length co) os ∧ Hid (Dg.Cho R C lst ∧ os = C.map (elt ls'))) k ?h0 ?_
      case h0 => exact ⟨rfl, [], 0, none, 0, [], rfl, rfl, gs0, Lib.hid ⟨Dg.Cho.start hR, rfl⟩⟩
      clear gs0 hBr
      intro c2' T2' hc2 hT2
      rintro mm f ds W0 ⟨rfl, C, lst, Ao, co, os, hf7, rfl, gs, HC⟩
      replace hc2 := hc2.out
      subst hc2
      replace hT2 := hT2.out
      subst hT2
      generalize hF : mrgF _ 0 _ _ = F
      simp only [mrg_hit, mrg_miss, mrg_end, Nat.reduceBEq, Nat.reduceAdd] at hF
      rw [hf7] at hF
      subst hF
      have hosl : Hid (os.length = C.length) := Lib.hid (by rw [HC.out.2, List.length_map])
      have hCl : C.length ≤ k := by have := HC.out.1.len; rw [HM.out] at this; exact this
      by_cases hlt : C.length < k
      · have x1 : ((C.length : Nat) : Int) < (k : Int) := by omega
        have q1 : decide ((os.length : Int) < (k : Int)) = true := decide_eq_true (by rw [hosl.out]; exact x1)
        have q1' : decide (os.length < k) = true := decide_eq_true (by rw [hosl.out]; exact hlt)
        have HFO : Hid (∃ p, p < k ∧ p ∉ C ∧ Dg.may R lst p = true) := Lib.hid (by
          have := HC.out.1.found hR (by rw [HM.out]; exact hlt)
          rw [HM.out] at this
          exact this)
        go_wp2_with fail
        refine wp_loop_mrg [10, 11, 45, 46, 47, 48, 49, 50, 51, 52, 53, 54, 55, 56, 57, 58, 59, 60, 61, 62, 83] (fun mm f ds W1 => ds = [] ∧ ∃ (i : Nat), f 45 = .int .i64 i ∧ mm = k - i ∧ i ≤ k ∧ GS w2 W1 R k w2.heap.size bL gD C lst (.slice Ao os.length co) os ∧ Hid (∀ q, q < i → q ∈ C ∨ Dg.may R lst q = false)) k ⟨rfl, 0, rfl, rfl, Nat.zero_le _, gs, Lib.hid (fun q h => absurd h (by omega))⟩ ?_
        clear gs
        intro c3' T3' hc2 hT2
        rintro mm f ds W1 ⟨rfl, i, hf45, rfl, hi, gs, HQ⟩
        replace hc2 := hc2.out
        subst hc2
        replace hT2 := hT2.out
        subst hT2
        generalize hF : mrgF _ 0 _ _ = F
        simp only [mrg_hit, mrg_miss, mrg_end, Nat.reduceBEq, Nat.reduceAdd] at hF
        rw [hf45] at hF
        subst hF
        by_cases hli : i < k
        · obtain ⟨VA, vc, hel⟩ := HEL.out i hli
          obtain ⟨vs, hvs⟩ : ∃ vs, Bs.els (Dg.scc R (Dg.ld R i)) 0 = vs := ⟨_, rfl⟩
          rw [hvs] at hel
          have HELI := Lib.hid hel
          have HVS := Lib.hid hvs
          clear hvs
          have hil : i < ls'.length := by rw [HLS.out.1]; exact hli
          have hLr := hLL.next gs.bel
          obtain ⟨la, hla, hlb, a0⟩ := hLr.outer.one_at hil
          have HIN : Hid (∀ W, Below w2.heap.size w2 W → Sl 1 icell W W.heap.size VA (nints vs)) := Lib.hid (fun W hb => by
            have hin := (hLL.next hb).inner _ (List.getElem_mem hil)
            rw [← elt_at hil, hel] at hin
            exact hin)
          rw [← elt_at hil, hel] at a0
          have e3 : ∀ vs, slcell ⟨VA, vc, nints vs⟩ 0 = .slice VA vs.length vc := fun vs => by unfold slcell; rw [nints_len]
          rw [e3] at a0
          clear e3 hel
          have hW8 := own8r gs.ow (k := i) (by rw [wts_len]; exact hli) (r := Dg.wt R (Dg.ld R i)) (wts_at R _)
          have kSub : Hid (∀ u : Kept W1.heap.size W1, Calls Tryz.prog 140 #[bsv (Dg.wt R (Dg.ld R i)), bsv lst] u.val fun e w' => e = .returned (.bool (Dg.may R lst i)) ∧ Below u.val.heap.size u.val w') := Lib.hid (fun u => bsSub_ok _ lst (Bs.fit_dif _ (Dg.nx_fit hR _)) u.val)
          obtain ⟨s0, s0f⟩ := gs.at hli
          obtain ⟨z0, z1, z2, z3, z4, z5, z6, z7⟩ := gs.bx.w
          obtain ⟨y0, y1, y2, y3, y4, y5, y6, y7⟩ := hW8
          have x0 : (0 : Int) ≤ (i : Int) := by omega
          have x2 : (i : Int) < (k : Int) := by omega
          have q2 : decide ((i : Int) < (k : Int)) = true := decide_eq_true x2
          have lD := (own_lt gs.od).2
          have lL := gs.bx.lt
          have lW := (own_lt gs.ow).2
          subst hla
          obtain ⟨dC, hdC⟩ : ∃ dC, decide (i ∈ C) = dC := ⟨_, rfl⟩
          obtain ⟨bM, hbM⟩ : ∃ bM, Dg.may R lst i = bM := ⟨_, rfl⟩
          rw [hdC] at s0
          have HDC := Lib.hid hdC
          have HBM := Lib.hid hbM
          rw [hbM] at kSub
          clear hdC hbM
          have hrec : Hid (∀ W', Below W1.heap.size W1 W' → (dC = true ∨ bM = false) → ∃ m', m' < k - i ∧ (∃ (i' : Nat), Value.int .i64 ((i : Int) + 1) = .int .i64 i' ∧ m' = k - i' ∧ i' ≤ k ∧ GS w2 W' R k w2.heap.size bL gD C lst (.slice Ao os.length co) os ∧ Hid (∀ q, q < i' → q ∈ C ∨ Dg.may R lst q = false))) := Lib.hid (fun W' hb h => by
            refine ⟨k - (i + 1), by omega, i + 1, rfl, rfl, hli, gs.next hb, Lib.hid (fun q hq => ?_)⟩
            rcases Nat.lt_succ_iff_lt_or_eq.1 hq with h2 | h2
            · exact HQ.out q h2
            · subst h2
              rcases h with h | h
              · rw [h] at HDC; exact .inl (of_decide_eq_true HDC.out)
              · rw [h] at HBM; exact .inr HBM.out)
          cases dC with
          | true =>
            go_wp2_with fail
            refine wp_region_kept W1.heap.size W1 (by kernel_rfl) (by kernel_rfl) (Below.refl _ _) ?_
            repeat (go_big_quiet_step (fail))
            refine wpQuiet_nil ?_
            rintro w5 ⟨⟨w5x, hb5⟩, hw5⟩
            dsimp only at hw5
            subst hw5
            clear s0 s0f z0 z1 z2 z3 z4 z5 z6 z7 y0 y1 y2 y3 y4 y5 y6 y7 a0
            go_wp2_with fail
            obtain ⟨m', hm', hi'⟩ := hrec.out _ hb5 (by simp)
            exact ⟨_, rfl, rfl, m', hm', by simp, hi'⟩
          | false =>
            cases bM with
            | false =>
              go_wp2_with fail
              refine wp_region_kept W1.heap.size W1 (by kernel_rfl) (by kernel_rfl) (Below.refl _ _) ?_
              repeat (go_big_quiet_step ((go_at_call 140; exact Kept.calls (Nat.le_refl _) (kSub.out _))))
              refine wpQuiet_nil ?_
              rintro w5 ⟨⟨w5x, hb5⟩, hw5⟩
              dsimp only at hw5
              subst hw5
              clear s0 s0f z0 z1 z2 z3 z4 z5 z6 z7 y0 y1 y2 y3 y4 y5 y6 y7 a0
              go_wp2_with fail
              obtain ⟨m', hm', hi'⟩ := hrec.out _ hb5 (by simp)
              exact ⟨_, rfl, rfl, m', hm', by simp, hi'⟩
            | true =>
              clear hrec
              go_wp2_with fail
              refine wp_region_kept W1.heap.size W1 (by kernel_rfl) (by kernel_rfl) (Below.refl _ _) ?_
              repeat (go_big_quiet_step ((go_at_call 140; exact Kept.calls (Nat.le_refl _) (kSub.out _))))
              refine wpQuiet_nil ?_
              rintro w5 ⟨⟨w5x, hb5⟩, hw5⟩
              dsimp only at hw5
              subst hw5
              clear s0 s0f z0 z1 z2 z3 z4 z5 z6 z7 y0 y1 y2 y3 y4 y5 y6 y7 a0
              have g1 := gs.next hb5
              obtain ⟨s0, s0f⟩ := g1.at hli
              have lD := (own_lt g1.od).2
              obtain ⟨W6, HW6⟩ : ∃ W6, Hid (w5.setCell ⟨gD, i, none⟩ (.bool true) = W6) := ⟨_, Lib.hid rfl⟩
              have g2 := g1.setD HS.out hli
              rw [HW6.out] at g2
              have hW6 := HW6.out
              go_wp2_with fail
              clear hW6 s0 s0f g1 gs lD
              have HV : Hid (∀ v ∈ vs, v < 512) := Lib.hid (fun v hv => by
                have h1 := HM.out
                have hvl := (Dg.mem_leads.1 (Dg.ld_in (R := R) (p := i) (by rw [h1]; exact hli))).1
                rw [← HVS.out] at hv
                have h2 := ((Dg.scc_bit hR hvl v).1 ((Bs.mem_els (Dg.scc_fit hR _)).1 hv)).1.lt hR hvl
                have := hR.len
                omega)
              have hvl512 : vs.length ≤ 512 := by rw [← HVS.out]; exact Bs.els_len _ 0
              have e0 : lst = lst ||| bitsU (vs.take 0) := by simp [bitsU]
              rw [e0] at g2
              clear e0
              refine wp_loop_mrg [13, 68, 69, 70, 71, 72, 73, 74, 75, 76, 77, 78] (fun mm f ds W2 => ds = [] ∧ ∃ (j : Nat), f 68 = .int .i64 j ∧ mm = vs.length - j ∧ j ≤ vs.length ∧ GS w2 W2 R k w2.heap.size bL gD (C ++ [i]) (lst ||| bitsU (vs.take j)) (.slice Ao os.length co) os) vs.length ⟨rfl, 0, rfl, rfl, Nat.zero_le _, g2⟩ ?_
              clear g2
              intro c4' T4' hc2 hT2
              rintro mm f ds W2 ⟨rfl, j, hf68, rfl, hj, g4⟩
              replace hc2 := hc2.out
              subst hc2
              replace hT2 := hT2.out
              subst hT2
              generalize hF : mrgF _ 0 _ _ = F
              simp only [mrg_hit, mrg_miss, mrg_end, Nat.reduceBEq, Nat.reduceAdd] at hF
              rw [hf68] at hF
              subst hF
              by_cases hjl : j < vs.length
              · obtain ⟨lb, hlb1, hlb2, b0⟩ := (HIN.out W2 g4.bel).int_at (k := j) (by rw [nints_len]; exact hjl)
                rw [show (nints vs)[j]'(by rw [nints_len]; exact hjl) = ((vs[j] : Nat) : Int) by unfold nints; rw [List.getElem_map]] at b0
                have hv512 := HV.out vs[j] (List.getElem_mem hjl)
                have HB1 : Hid (lst ||| bitsU (vs.take (j + 1)) = lst ||| bitsU (vs.take j) ||| 2 ^ vs[j]) := Lib.hid (by rw [List.take_succ_eq_append_getElem hjl, bitsU_snoc, Nat.or_assoc])
                have x0 : (0 : Int) ≤ (j : Int) := by omega
                have x3 : (j : Int) < (vs.length : Int) := by omega
                have q4 : decide ((j : Int) < (vs.length : Int)) = true := decide_eq_true x3
                have HN : Hid (∀ W', GS w2 W' R k w2.heap.size bL gD (C ++ [i]) (lst ||| bitsU (vs.take (j + 1))) (.slice Ao os.length co) os → ∃ m', m' < vs.length - j ∧ (∃ (j' : Nat), Value.int .i64 ((j : Int) + 1) = .int .i64 j' ∧ m' = vs.length - j' ∧ j' ≤ vs.length ∧ GS w2 W' R k w2.heap.size bL gD (C ++ [i]) (lst ||| bitsU (vs.take j')) (.slice Ao os.length co) os)) := Lib.hid (fun W' h => ⟨vs.length - (j + 1), by omega, j + 1, rfl, rfl, hjl, h⟩)
                generalize vs[j] = v at *
                generalize hM' : lst ||| bitsU (vs.take j) = M' at *
                generalize hM'' : lst ||| bitsU (vs.take (j + 1)) = M'' at *
                clear hM' hM''
                subst hlb1
                obtain ⟨z0, z1, z2, z3, z4, z5, z6, z7⟩ := g4.bx.w
                go_wp2_with fail
                clear b0 z0 z1 z2 z3 z4 z5 z6 z7
                refine (bsAdd_ok M' v W2 hv512).mono ?_
                rintro e w7 ⟨rfl, hb7⟩
                have t4 := g4.next hb7
                rw [← HB1.out]
                obtain ⟨Y, HY, z, hBY, hsY, hoY⟩ := store8 w7 bL M'' _ _ t4.bx rfl
                obtain ⟨g0, g1, g2, g3, g4', g5, g6, g7⟩ := t4.bx.f8
                obtain ⟨d0, d1, d2, d3, d4, d5, d6, d7⟩ := t4.bx.w
                have g8 := t4.setL HS.out (grown8 HY.out) z
                have hY := HY.out
                clear z hBY hoY
                go_wp2_with fail
                obtain ⟨m', hm', hi'⟩ := HN.out _ g8
                exact ⟨_, rfl, rfl, m', hm', by simp, hi'⟩
              · obtain rfl : j = vs.length := by omega
                have q4 : decide ((vs.length : Int) < (vs.length : Int)) = false := decide_eq_false (by omega)
                rw [List.take_length] at g4
                have hol := hosl.out
                have hom : os.length ≤ 512 := by omega
                have HOM := Lib.hid hom
                clear hol hom
                have hcs : #[Value.slice VA vs.length vc].toList = (List.range 1).map (slcell ⟨VA, vc, nints vs⟩) := by simp [slcell, nints_len]
                have HCS := Lib.hid hcs
                clear hcs
                go_wp2_with (at_builtin; refine wpList_push (w0 := w2) (cell := slcell) (y := (⟨VA, vc, nints vs⟩ : SLc)) rfl _ _ _ rfl w2.heap.size w2.heap.size 29 il _ 24 Tryz.underlying39 Hil.out Hzl0.out Hzl1.out Hzl2.out rfl (by decide) _ _ _ rfl g4.oo _ _ HCS.out _ rfl (sl_one _) (by have := HOM.out; unfold maxLen; omega) (by have := HOM.out; omega) g4.bel.size (Nat.le_refl _) g4.bel ?_; intro v' w8 hown8 hb8 hg8; obtain ⟨g8, cap8, rfl⟩ := ownsRow_succ hown8; have g5 := g4.push hb8 hown8 hg8)
                have HC2 : Dg.Cho R (C ++ [i]) (lst ||| bitsU vs) := by
                  have h1 := HC.out.1.next hR (p := i) (by rw [HM.out]; exact hli) (of_decide_eq_false HDC.out) HBM.out HQ.out
                  rw [← HVS.out, bitsU_els (Dg.scc_fit hR _)]
                  exact h1
                refine ⟨rfl, k - (C ++ [i]).length, by rw [List.length_append]; simp; omega, C ++ [i], lst ||| bitsU vs, some ⟨g8, 0, none⟩, cap8, os ++ [⟨VA, vc, nints vs⟩], by rw [List.length_append]; rfl, rfl, by rw [List.length_append]; exact g5, Lib.hid ⟨HC2, ?_⟩⟩
                rw [List.map_append, ← HC.out.2, List.map_cons, List.map_nil, HELI.out]
        · exfalso
          obtain ⟨p, h1, h2, h3⟩ := HFO.out
          rcases HQ.out p (by omega) with h | h
          · exact h2 h
          · rw [h] at h3; cases h3
      · have hCk : C.length = k := by omega
        have HCK := Lib.hid hCk
        have q1 : decide ((os.length : Int) < (k : Int)) = false := decide_eq_false (by have := hosl.out; omega)
        have q1' : decide (os.length < k) = false := decide_eq_false (by have := hosl.out; omega)
        clear hCk hlt hCl
        go_wp2_with fail
        rw [Exit.noGoto_ret]
        go_ret
        have hlo' := hlo.below gs.bel
        refine ⟨_, os, rfl, ⟨own_base gs.oo B2.size, fun s hs => ?_⟩, ?_, after_ B2 gs.bel⟩
        · rw [HC.out.2] at hs
          obtain ⟨p, hp, rfl⟩ := List.mem_map.1 hs
          have hpl : p < ls'.length := by
            have := HC.out.1.lt p hp
            rw [HM.out] at this
            rw [HLS.out.1]
            exact this
          rw [elt_at hpl]
          exact hlo'.inner _ (List.getElem_mem hpl)
        · rw [HC.out.2, ← HC.out.1.done (by rw [HM.out]; exact HCK.out), List.map_map, List.map_map]
          refine List.map_congr_left fun p hp => ?_
          obtain ⟨VA, vc, he⟩ := HEL.out p (by have := HC.out.1.lt p hp; rw [HM.out] at this; exact this)
          simp only [Function.comp, he]
          rfl
end Go.Proofs.YtpkepgcmifdpfaaGreatDoor
end

section
namespace Go.Proofs.YtpkepgcmifdpfaaGreatDoor
open Go Go.RowKit
set_option maxRecDepth 100000
namespace M
def stv (l : List Mv) (v : Nat) : Int := match l[v]? with | some m => m.st | none => 0
theorem stv_at {l : List Mv} {v : Nat} (h : v < l.length) : l[v].st = stv l v := by unfold stv; rw [List.getElem?_eq_getElem h]
theorem sts_eq (l : List Mv) (s : Nat) : sts l s = (Bs.els s 0).map (stv l) := rfl
end M
theorem inInfo : (Tryz.prog.info? 3).map (fun i => (i.zero, i.size, i.bytes)) = some (some (.int .i64 0), 1, 8) := by kernel_rfl
set_option maxHeartbeats 32000000 in
theorem groups_ok (PA : Option Addr) (pc np : Nat) (ps : List P5) (LA : Option Addr) (lc : Nat) (l : List Mv) (w : World) (ht : Tab64 w) (hnp : np = ps.length) (hP : Sl 5 p5cell w w.heap.size PA ps) (hL : Sl 6 mvcell w w.heap.size LA l) (hl : l.length ≤ 9223372036854775806) (hw : ∀ p ∈ ps, M.W64 p.a ∧ M.W64 p.b) :
    Calls Tryz.prog 72 #[.slice PA np pc, .slice LA l.length lc] w fun e w' => (∃ er, M.errIs ps l er ∧ ((er ≠ 0 ∧ e = .returned (.tuple #[.slice none 0 0, .int .i64 er])) ∨ (er = 0 ∧ ∃ A c ls, e = .returned (.tuple #[.slice A ls.length c, .int .i64 0]) ∧ LO w' w.heap.size (.slice A ls.length c) ls ∧ ls.map (·.xs) = M.grps ps l))) ∧ Below w.heap.size w w' := by
  obtain ⟨ii, hii, hzi0, hzi1, hzi2⟩ := info_parts inInfo
  have Hii := Lib.hid hii; have Hzi0 := Lib.hid hzi0; have Hzi1 := Lib.hid hzi1; have Hzi2 := Lib.hid hzi2
  clear hii hzi0 hzi1 hzi2
  obtain ⟨il, hil, hzl0, hzl1, hzl2⟩ := info_parts slInfo
  have Hil := Lib.hid hil; have Hzl0 := Lib.hid hzl0; have Hzl1 := Lib.hid hzl1; have Hzl2 := Lib.hid hzl2
  clear hil hzl0 hzl1 hzl2
  have kG := graph_ok PA pc np ps LA lc l w hnp hP hL hl hw
  clear hnp hw hP
  go_enter Tryz.func72, Tryz.ntmps72
  go_wp2_with fail
  refine kG.mono ?_
  rintro e w2 ⟨⟨er, her, hcase⟩, hb2⟩
  clear kG
  rcases hcase with ⟨hne, rfl⟩ | ⟨rfl, g, bg, arcs, rfl, hg, hGO⟩
  · have q0 : (er == 0) = false := by simpa using hne
    have q1 : (er != 0) = true := by simpa using hne
    have HER := Lib.hid her
    have HE0 := Lib.hid hne
    clear her hne
    go_wp2_with fail
    go_ret2
    exact ⟨⟨er, HER.out, .inl ⟨HE0.out, rfl⟩⟩, hb2⟩
  · have HER := Lib.hid her
    have hok : M.mvsOk l := by
      rcases HER.out with ⟨h1, h2, -⟩ | ⟨-, -, h⟩ | ⟨-, h⟩
      · exact h1
      · cases h
      · cases h
    have hR := M.rows_ok (ps := ps) hok.1
    have hl512 := hok.1
    have HRL : Hid ((M.rows ps l).length = l.length) := Lib.hid (M.rows_len ps l)
    have kQ := dpGroups_ok bg _ l.length (M.rows ps l) arcs w2 (ht.kept hb2) hGO.dg hR
    clear her hok
    go_wp2_with fail
    refine kQ.mono ?_
    rintro e w3 ⟨v, ls, rfl, hlo, hls, hb3⟩
    clear kQ
    obtain ⟨A1, c1, rfl⟩ := hlo.slice
    have HGR : Hid (M.grps ps l = (Dg.ord (M.rows ps l)).map fun v => M.sts l (Dg.scc (M.rows ps l) v)) := Lib.hid rfl
    have HOL : Hid (∀ v ∈ Dg.ord (M.rows ps l), v < l.length) := Lib.hid (fun v hv => by
      have := (Dg.mem_leads.1 ((Dg.ord_mem hR).1 hv)).1
      rwa [HRL.out] at this)
    have hol : (Dg.ord (M.rows ps l)).length ≤ 512 := by
      have h1 := (Dg.ord_perm hR).length_eq
      have h2 := Dg.leads_len (M.rows ps l)
      have h3 := HRL.out
      omega
    have B3 := after_ hb2 hb3
    have HSC : Hid (∀ v, v < l.length → ∀ x ∈ Bs.els (Dg.scc (M.rows ps l) v) 0, x < l.length) := Lib.hid (fun v hv x hx => by
      have hv' : v < (M.rows ps l).length := by rw [HRL.out]; exact hv
      have := ((Dg.scc_bit hR hv' x).1 ((Bs.mem_els (Dg.scc_fit hR v)).1 hx)).1.lt hR hv'
      rwa [HRL.out] at this)
    generalize Dg.ord (M.rows ps l) = od at *
    obtain ⟨m, hm⟩ : ∃ m, od.length = m := ⟨_, rfl⟩
    have HM := Lib.hid hm
    have hlm : ls.length = m := by rw [← hm, ← List.length_map (f := (·.xs)), hls, List.length_map]
    have HLM := Lib.hid hlm
    rw [hm] at hol
    have hLL := hlo.ll
    have HLS := Lib.hid hls
    rw [hlm]
    clear hm hls hlm hlo hGO hg hb2 hb3
    go_wp2_with fail
    refine wp_loop_mrg [8, 10, 11, 13, 26, 27, 28, 29, 30, 31, 32, 33, 34, 35, 36, 37, 38, 39, 40, 41, 42, 43, 44, 45, 46, 47, 48, 49] (fun mm f ds W0 => ds = [] ∧ ∃ (i : Nat) (Ao : Option Addr) (co : Nat) (os : List SLc), f 26 = .int .i64 i ∧ f 8 = .slice Ao os.length co ∧ mm = m - i ∧ i ≤ m ∧ Below w3.heap.size w3 W0 ∧ LO W0 w3.heap.size (.slice Ao os.length co) os ∧ Hid (os.length = i ∧ os.map (·.xs) = (od.take i).map fun v => M.sts l (Dg.scc (M.rows ps l) v))) m ⟨rfl, 0, none, 0, [], rfl, rfl, rfl, Nat.zero_le _, Below.refl _ _, LO.none_ _ _, Lib.hid ⟨rfl, rfl⟩⟩ ?_
    intro c2' T2' hc2 hT2
    rintro mm f ds W0 ⟨rfl, i, Ao, co, os, hf26, hf8, rfl, hi, hB, hlo, HO⟩
    replace hc2 := hc2.out
    subst hc2
    replace hT2 := hT2.out
    subst hT2
    generalize hF : mrgF _ 0 _ _ = F
    simp only [mrg_hit, mrg_miss, mrg_end, Nat.reduceBEq, Nat.reduceAdd] at hF
    rw [hf26, hf8] at hF
    subst hF
    by_cases hlt : i < m
    · have x0 : (0 : Int) ≤ (i : Int) := by omega
      have x1 : (i : Int) < (m : Int) := by omega
      have q0 : decide ((i : Int) < (m : Int)) = true := decide_eq_true x1
      have hil : i < ls.length := by rw [HLM.out]; exact hlt
      have hio : i < od.length := by rw [HM.out]; exact hlt
      obtain ⟨VA, vc, hel⟩ : ∃ VA vc, ls[i] = ⟨VA, vc, nints (Bs.els (Dg.scc (M.rows ps l) od[i]) 0)⟩ := by
        have e2 : (ls.map (·.xs))[i]'(by simpa using hil) = ls[i].xs := by simp
        have e1 := HLS.out
        simp only [e1, List.getElem_map] at e2
        exact ⟨ls[i].A, ls[i].c, by rw [show nints _ = ls[i].xs from e2]⟩
      have HTK : Hid ((od.take (i + 1)).map (fun v => M.sts l (Dg.scc (M.rows ps l) v)) = (od.take i).map (fun v => M.sts l (Dg.scc (M.rows ps l) v)) ++ [(Bs.els (Dg.scc (M.rows ps l) od[i]) 0).map (M.stv l)]) := Lib.hid (by rw [List.take_succ_eq_append_getElem hio, List.map_append]; rfl)
      have HXL := Lib.hid (HSC.out od[i] (HOL.out _ (List.getElem_mem hio)))
      have hvl := Bs.els_len (Dg.scc (M.rows ps l) od[i]) 0
      generalize Bs.els (Dg.scc (M.rows ps l) od[i]) 0 = vs at *
      have hLr := hLL.next hB
      obtain ⟨la, hla, hlb, a0⟩ := hLr.outer.one_at hil
      have HIN : Hid (∀ W, Below w3.heap.size w3 W → Sl 1 icell W W.heap.size VA (nints vs)) := Lib.hid (fun W hb => by
        have hin := (hLL.next hb).inner _ (List.getElem_mem hil)
        rw [hel] at hin
        exact hin)
      rw [hel] at a0
      have e3 : ∀ vs, slcell ⟨VA, vc, nints vs⟩ 0 = .slice VA vs.length vc := fun vs => by unfold slcell; rw [nints_len]
      rw [e3] at a0
      clear e3 hel
      subst hla
      go_wp2_with fail
      clear a0
      refine wp_loop_mrg [11, 13, 32, 33, 34, 35, 36, 37, 38, 39, 40, 41, 42, 43, 44] (fun mm f ds W1 => ds = [] ∧ ∃ (j : Nat) (As : Option Addr) (cs : Nat), f 32 = .int .i64 j ∧ f 11 = .slice As j cs ∧ mm = vs.length - j ∧ j ≤ vs.length ∧ Below W0.heap.size W0 W1 ∧ W1.ownsRow W0.heap.size 3 1 (.slice As j cs) j (flat 1 icell ((vs.take j).map (M.stv l)))) vs.length ⟨rfl, 0, none, 0, rfl, rfl, rfl, Nat.zero_le _, Below.refl _ _, own_nil _ _ _ _ _⟩ ?_
      intro c3' T3' hc2 hT2
      rintro mm f ds W1 ⟨rfl, j, As, cs, hf32, hf11, rfl, hj, hB1, hrow⟩
      replace hc2 := hc2.out
      subst hc2
      replace hT2 := hT2.out
      subst hT2
      generalize hF : mrgF _ 0 _ _ = F
      simp only [mrg_hit, mrg_miss, mrg_end, Nat.reduceBEq, Nat.reduceAdd] at hF
      rw [hf32, hf11] at hF
      subst hF
      have B1 := after_ hB hB1
      by_cases hjl : j < vs.length
      · obtain ⟨lb, hlb1, hlb2, b0⟩ := (HIN.out W1 B1).int_at (k := j) (by rw [nints_len]; exact hjl)
        rw [show (nints vs)[j]'(by rw [nints_len]; exact hjl) = ((vs[j] : Nat) : Int) by unfold nints; rw [List.getElem_map]] at b0
        have hvj := HXL.out vs[j] (List.getElem_mem hjl)
        have HT2 : Hid ((vs.take (j + 1)).map (M.stv l) = (vs.take j).map (M.stv l) ++ [M.stv l vs[j]]) := Lib.hid (by rw [List.take_succ_eq_append_getElem hjl, List.map_append]; rfl)
        have x0 : (0 : Int) ≤ (j : Int) := by omega
        have x3 : (j : Int) < (vs.length : Int) := by omega
        have q4 : decide ((j : Int) < (vs.length : Int)) = true := decide_eq_true x3
        generalize vs[j] = v at *
        obtain ⟨lm, hlm, hlmb, m0, -⟩ := (hL.below (after_ B3 B1)).mv6 hvj
        rw [M.stv_at hvj] at m0
        have y0 : (0 : Int) ≤ (v : Int) := by omega
        have y1 : (v : Int) < (l.length : Int) := by omega
        generalize M.stv l v = sx at *
        subst hlb1 hlm
        have HN : Hid (∀ W' g8 cap8, Below W0.heap.size W0 W' → W'.ownsRow W0.heap.size 3 1 (.slice (some ⟨g8, 0, none⟩) (j + 1) cap8) (j + 1) (flat 1 icell ((vs.take j).map (M.stv l) ++ [sx])) → ∃ m', m' < vs.length - j ∧ (∃ (j' : Nat) (As : Option Addr) (cs : Nat), Value.int .i64 ((j : Int) + 1) = .int .i64 j' ∧ Value.slice (some ⟨g8, 0, none⟩) (j + 1) cap8 = .slice As j' cs ∧ m' = vs.length - j' ∧ j' ≤ vs.length ∧ Below W0.heap.size W0 W' ∧ W'.ownsRow W0.heap.size 3 1 (.slice As j' cs) j' (flat 1 icell ((vs.take j').map (M.stv l))))) := Lib.hid (fun W' g8 cap8 h1 h2 => ⟨vs.length - (j + 1), by omega, j + 1, some ⟨g8, 0, none⟩, cap8, rfl, rfl, rfl, hjl, h1, by rw [HT2.out]; exact h2⟩)
        go_wp2_with (at_builtin; refine wpList_push (w0 := W0) (cell := icell) (y := sx) rfl _ _ _ rfl W0.heap.size W0.heap.size 3 ii _ 8 Tryz.underlying29 Hii.out Hzi0.out Hzi1.out Hzi2.out rfl (by decide) _ _ _ rfl hrow _ _ rfl _ rfl (fun _ => rfl) (by unfold maxLen; omega) (by omega) hB1.size (Nat.le_refl _) hB1 ?_; intro v' w8 hown8 hb8 hg8; obtain ⟨g8, cap8, rfl⟩ := ownsRow_succ hown8)
        obtain ⟨m', hm', hi'⟩ := HN.out _ _ _ hb8 hown8
        exact ⟨_, rfl, rfl, m', hm', by simp, hi'⟩
      · obtain rfl : j = vs.length := by omega
        have q4 : decide ((vs.length : Int) < (vs.length : Int)) = false := decide_eq_false (by omega)
        rw [List.take_length] at hrow
        have hlo1 := hlo.below hB1
        have HOM : Hid (os.length ≤ 512) := Lib.hid (by have := HO.out.1; omega)
        have HCS : Hid (#[Value.slice As vs.length cs].toList = (List.range 1).map (slcell ⟨As, cs, vs.map (M.stv l)⟩)) := Lib.hid (by simp [slcell])
        go_wp2_with (at_builtin; refine wpList_push (w0 := w3) (cell := slcell) (y := (⟨As, cs, vs.map (M.stv l)⟩ : SLc)) rfl _ _ _ rfl w3.heap.size w3.heap.size 29 il _ 24 Tryz.underlying39 Hil.out Hzl0.out Hzl1.out Hzl2.out rfl (by decide) _ _ _ rfl hlo1.outer _ _ HCS.out _ rfl (sl_one _) (by have := HOM.out; unfold maxLen; omega) (by have := HOM.out; omega) B1.size (Nat.le_refl _) B1 ?_; intro v' w8 hown8 hb8 hg8; obtain ⟨g8, cap8, rfl⟩ := ownsRow_succ hown8)
        have hP := hlo1.push (s := ⟨As, cs, vs.map (M.stv l)⟩) (by rw [List.length_map]; exact own_base hrow hB.size) hown8 hg8
        refine ⟨rfl, m - (i + 1), by omega, i + 1, rfl, some ⟨g8, 0, none⟩, cap8, os ++ [⟨As, cs, vs.map (M.stv l)⟩], by rw [List.length_append]; rfl, rfl, hlt, by rw [List.length_append]; exact hP, Lib.hid ⟨by rw [List.length_append, HO.out.1]; rfl, ?_⟩⟩
        rw [List.map_append, HO.out.2, ← List.map_take, HTK.out]
        rfl
    · obtain rfl : i = m := by omega
      have q0 : decide ((i : Int) < (i : Int)) = false := decide_eq_false (by omega)
      go_wp2_with fail
      go_ret2
      refine ⟨⟨0, HER.out, .inr ⟨rfl, Ao, co, os, rfl, ⟨own_base hlo.outer B3.size, fun s hs => own_base (hlo.inner s hs) B3.size⟩, ?_⟩⟩, after_ B3 hB⟩
      rw [HO.out.2, HGR.out, ← HM.out, List.take_length]
end Go.Proofs.YtpkepgcmifdpfaaGreatDoor
end

section
namespace Go.Proofs.YtpkepgcmifdpfaaGreatDoor
open Go Go.RowKit Go.Maps
set_option maxRecDepth 100000
namespace M
end M
end Go.Proofs.YtpkepgcmifdpfaaGreatDoor
end

section
namespace Go.Proofs.YtpkepgcmifdpfaaGreatDoor
open Go Go.RowKit
set_option maxRecDepth 100000
def e2cell (p : Int × Int) (j : Nat) : Value := match j with | 0 => .int .i64 p.1 | _ => .int .i64 p.2
theorem e2_one (p : Int × Int) (j : Nat) : (e2cell p j).oneCell' = true := by rcases j with _ | j <;> rfl
theorem Sl.e2 {w : World} {B : Nat} {A : Option Addr} {es : List (Int × Int)} {k : Nat} (h : Sl 2 e2cell w B A es) (hk : k < es.length) :
    ∃ ad, A = some ad ∧ (ad.add (k * 2)).block < B ∧ w.cell? (ad.add (k * 2)) = some (.int .i64 es[k].1) ∧ w.cell? ⟨(ad.add (k * 2)).block, (ad.add (k * 2)).off + 1, none⟩ = some (.int .i64 es[k].2) := by
  obtain ⟨ad, e, hb, h0, hj⟩ := h.sp (by decide) hk
  exact ⟨ad, e, hb, h0, hj 1 (by decide) (by decide)⟩
set_option maxHeartbeats 8000000 in
theorem edges_seq (b c : Nat) (A : Option Addr) (es : List (Int × Int)) (hlen : es.length ≤ 1000000) :
    SeqP Tryz.prog 104 #[.pointer (some ⟨b, 0, none⟩)] (fun p : Int × Int => #[.int .i64 p.1, .int .i64 p.2]) es (fun W => Box W b #[.slice A es.length c] 178 ∧ Sl 2 e2cell W W.heap.size A es) := by
  intro l J Jx V hJ hJx hJb hY h0
  refine callsIn_wide.2 ?_
  have c0 := (hJb _ _ h0).1.c1
  go_enter Tryz.func104, Tryz.ntmps104
  go_wp2_with fail
  clear c0
  go_loopw [7] (fun i wr => ∃ k : Nat, k ≤ es.length ∧ i = .int .i64 k ∧ J (es.take k) wr) (fun i _ => es.length - (intOf i).toNat)
  case atStart => exact ⟨0, Nat.zero_le _, rfl, h0⟩
  case round =>
    obtain ⟨k, hk, rfl, hJp⟩ := hrel
    by_cases hlt : k < es.length
    · have x0 : (0 : Int) ≤ (k : Int) := by omega
      have x1 : (k : Int) < (es.length : Int) := by omega
      have q0 : decide ((k : Int) < (es.length : Int)) = true := decide_eq_true x1
      obtain ⟨ad, hA, hab, a0, a1⟩ := (hJb _ _ hJp).2.e2 hlt
      have HE2 : Hid (es = es.take k ++ es[k] :: es.drop (k + 1)) := Lib.hid (by rw [List.getElem_cons_drop, List.take_append_drop])
      have HTK : Hid (es.take (k + 1) = es.take k ++ [es[k]]) := Lib.hid (List.take_succ_eq_append_getElem hlt)
      obtain ⟨X, HX, xb, hbX, -⟩ := boxes1 wr #[.int .i64 es[k].1, .int .i64 es[k].2] 152
      have hJX : J (es.take k) X := hJ _ _ _ none hJp (below_grown hbX) (fun r e => by cases e)
      obtain ⟨fn, tmps, assign, body, hy, hR⟩ := hY (es.take k) es[k] (es.drop (k + 1)) X HE2.out hJX
      obtain ⟨b0, b1⟩ := xb.c2
      have HAA := Lib.hid hA
      subst hA
      have hX := HX.out
      clear hY hJp h0 hJX
      refine (wpIn_wide (n := 9)).1 ?_
      gi_wp2_with fail
      clear hX a0 a1 b0 b1
      refine hR.mono ?_
      rintro e W3 (⟨rfl, hJ3⟩ | ⟨rfl, hJ3⟩)
      · rw [← HTK.out] at hJ3
        gi_wp2_with fail
        go_roundw
        case rel => exact ⟨k + 1, hlt, by go_num, hJ3⟩
        case measure => simp [intOf]; omega
      · gi_wp2_with fail
        exact bodyPost_ret (results_none rfl _ _ _) rfl ⟨⟨_, rfl⟩, .inr ⟨_, hJ3⟩⟩
    · obtain rfl : k = es.length := by omega
      have q0 : decide ((es.length : Int) < (es.length : Int)) = false := decide_eq_false (by omega)
      rw [List.take_length] at hJp
      clear hY h0
      go_wp2_with fail
      go_end0
      exact ⟨⟨_, rfl⟩, .inl hJp⟩
end Go.Proofs.YtpkepgcmifdpfaaGreatDoor
end

section
namespace Go.Proofs.YtpkepgcmifdpfaaGreatDoor
open Go Go.RowKit
set_option maxRecDepth 100000
namespace M
def edgT (ps : List P5) (l : List Mv) (k : Nat) : List (Int × Int) := (List.range k).flatMap fun v => (Bs.els (Dg.row (rows ps l) v) 0).map fun x => (stv l v, stv l x)
theorem edgT_succ (ps : List P5) (l : List Mv) (k : Nat) : edgT ps l (k + 1) = edgT ps l k ++ (Bs.els (Dg.row (rows ps l) k) 0).map fun x => (stv l k, stv l x) := by
  unfold edgT
  rw [List.range_succ, List.flatMap_append]
  simp
theorem edgT_len (ps : List P5) (l : List Mv) : ∀ k, (edgT ps l k).length ≤ 512 * k
  | 0 => by simp [edgT]
  | k + 1 => by
    rw [edgT_succ, List.length_append, List.length_map]
    have := edgT_len ps l k
    have := Bs.els_len (Dg.row (rows ps l) k) 0
    omega
def edg (ps : List P5) (l : List Mv) : List (Int × Int) := edgT ps l l.length
end M
theorem e2Info : (Tryz.prog.info? 152).map (fun i => (i.zero, i.size, i.bytes)) = some (some (.agg #[.int .i64 0, .int .i64 0]), 2, 16) := by kernel_rfl
theorem GO.kept {w w' : World} {base g bg n : Nat} {R : List Nat} {arcs : Int} {row : Option Nat} (h : GO w base g bg n R arcs) (hg : w.grownBy w' row) (h1 : row ≠ some g) (h2 : row ≠ some bg) : GO w' base g bg n R arcs :=
  ⟨h.box.grown hg (fun e => h2 e.symm), h.own.kept hg (.inr (fun e => h1 e.symm)), h.len, h.far⟩
theorem GO.own' {w w' : World} {base g bg n : Nat} {R : List Nat} {arcs : Int} {row : Option Nat} {B : Nat} (h : GO w base g bg n R arcs) (hg : w.grownBy w' row) (hr : ∀ r, row = some r → B ≤ r ∧ ∃ o : Obj, w.heap[r]? = some o ∧ o.isCells = false) : GO w' base g bg n R arcs :=
  ⟨h.box.own hg hr, row_own h.own hg hr, h.len, h.far⟩
structure EdS (w W : World) (LA : Option Addr) (n lc b5 base0 g bg : Nat) (R : List Nat) (arcs : Int) (A : Option Addr) (c : Nat) (es : List (Int × Int)) : Prop where
  bel : Below w.heap.size w W
  x3 : Box W w.heap.size #[.slice LA n lc] 23
  x5 : Box W b5 #[.slice A es.length c] 178
  own : W.ownsRow base0 152 2 (.slice A es.length c) es.length (flat 2 e2cell es)
  go : GO W base0 g bg n R arcs
section
variable {w W W' : World} {LA : Option Addr} {n lc b5 base0 g bg : Nat} {R : List Nat} {arcs : Int} {A : Option Addr} {c : Nat} {es : List (Int × Int)}
theorem EdS.next (h : EdS w W LA n lc b5 base0 g bg R arcs A c es) (hb : Below W.heap.size W W') : EdS w W' LA n lc b5 base0 g bg R arcs A c es := ⟨after_ h.bel hb, h.x3.below hb, h.x5.below hb, own_below h.own hb, h.go.next hb⟩
theorem EdS.own' {row : Option Nat} {B : Nat} (h : EdS w W LA n lc b5 base0 g bg R arcs A c es) (hB : w.heap.size ≤ B) (hg : W.grownBy W' row) (hr : ∀ r, row = some r → B ≤ r ∧ ∃ o : Obj, W.heap[r]? = some o ∧ o.isCells = false) : EdS w W' LA n lc b5 base0 g bg R arcs A c es :=
  ⟨below_own h.bel hB h.bel.size hg hr, h.x3.own hg hr, h.x5.own hg hr, row_own h.own hg hr, h.go.own' hg hr⟩
theorem EdS.push (h : EdS w W LA n lc b5 base0 g bg R arcs A c es) (hs : w.heap.size < b5 ∧ b5 < base0) {A' : Option Addr} {c' : Nat} {p : Int × Int} (hb : Below w.heap.size w W') (ho : W'.ownsRow base0 152 2 (.slice A' (es.length + 1) c') (es.length + 1) (flat 2 e2cell (es ++ [p]))) (hg : W.grownBy W' (Value.slice A es.length c).ownBlock) :
    EdS w (W'.setCell ⟨b5, 0, none⟩ (.slice A' (es.length + 1) c')) LA n lc b5 base0 g bg R arcs A' c' (es ++ [p]) := by
  have hgl := h.go.lt
  have hgf := h.go.far
  have go1 : GO W' base0 g bg n R arcs := h.go.kept hg (fun e => by
    rcases own_ne h.go.own h.own (by decide) with h3 | h3
    · cases h3
    · exact h3 e.symm) (fun e => h.go.box.ne_own (by decide) h.own e.symm)
  refine ⟨hb.setCell (p := ⟨b5, 0, none⟩) (by dsimp only; omega) _, (h.x3.grown hg (h.x3.ne_own (by decide) h.own)).set_other (by dsimp only; omega) _, ?_, ?_, go1.kept (grown_set W' b5 0 _) (fun e => by have e2 : b5 = g := Option.some.inj e; omega) (fun e => by have e2 : b5 = bg := Option.some.inj e; omega)⟩
  · rw [List.length_append]; exact (h.x5.grown hg (h.x5.ne_own (by decide) h.own)).set 0 _
  · rw [List.length_append]
    exact World.ownsRow.kept ho (grown_set W' b5 0 _) (by
      cases hv : (Value.slice A' (es.length + 1) c').ownBlock with
      | none => exact .inl rfl
      | some b => exact .inr (fun e => by have e2 : b = b5 := Option.some.inj e; have := (ho.lt b hv).1; omega))
end
set_option maxHeartbeats 32000000 in
theorem edges_ok (PA : Option Addr) (pc np : Nat) (ps : List P5) (LA : Option Addr) (lc : Nat) (l : List Mv) (w : World) (ht : Tab64 w) (hnp : np = ps.length) (hP : Sl 5 p5cell w w.heap.size PA ps) (hL : Sl 6 mvcell w w.heap.size LA l) (hl : l.length ≤ 9223372036854775806) (hw : ∀ p ∈ ps, M.W64 p.a ∧ M.W64 p.b) :
    Calls Tryz.prog 73 #[.slice PA np pc, .slice LA l.length lc] w fun e w' => (∃ (b : Nat) (A : Option Addr) (c : Nat) (es : List (Int × Int)) (er : Int), e = .returned (.func (.func 104) #[] #[.pointer (some ⟨b, 0, none⟩)]) ∧ w.heap.size ≤ b ∧ Box w' b #[.slice A es.length c] 178 ∧ w'.ownsRow w.heap.size 152 2 (.slice A es.length c) es.length (flat 2 e2cell es) ∧ M.errIs ps l er ∧ (er ≠ 0 → es = []) ∧ (er = 0 → es = M.edg ps l)) ∧ Below w.heap.size w w' := by
  obtain ⟨ie, hie, hze0, hze1, hze2⟩ := info_parts e2Info
  have Hie := Lib.hid hie; have Hze0 := Lib.hid hze0; have Hze1 := Lib.hid hze1; have Hze2 := Lib.hid hze2
  clear hie hze0 hze1 hze2
  obtain ⟨V, HW, x3, x5, hB, hsV⟩ := boxes2 w #[.slice LA l.length lc] 23 #[.slice none 0 0] 178
  have kG := graph_ok PA pc np ps LA lc l V hnp ((hP.below hB).more hB.size) ((hL.below hB).more hB.size) hl hw
  have hL0 : Hid (∀ W, Below w.heap.size w W → Sl 6 mvcell W W.heap.size LA l) := Lib.hid (fun W hb => (hL.below hb).more hb.size)
  have HSV := Lib.hid hsV
  have hmf := hmfB
  clear hnp hw hP hsV
  have hV := HW.out
  refine calls_marks Tryz.func73 rfl ?_
  simp only [Tryz.ntmps73, List.size_toArray, List.length_cons, List.length_nil, Nat.reduceAdd, Nat.reduceSub, Array.replicate_succ, Array.replicate_zero, List.push_toArray, List.append_toArray, List.nil_append, List.cons_append]
  have c3 := x3.c1
  go_wp2_with fail
  clear hV c3
  refine kG.mono ?_
  rintro e w2 ⟨⟨er, her, hcase⟩, hb2⟩
  clear kG
  have B2 := after_ hB hb2
  have y3 := x3.below hb2
  have y5 := x5.below hb2
  rcases hcase with ⟨hne, rfl⟩ | ⟨rfl, g, bg, arcs, rfl, hg, hGO⟩
  · have q0 : (er == 0) = false := by simpa using hne
    have q1 : (er != 0) = true := by simpa using hne
    have HER := Lib.hid her
    have HE0 := Lib.hid hne
    clear her hne
    go_wp2_with fail
    refine leaves_marks (B := w.heap.size) (C := w.heap.size) _ _ Marks.none_ (fun W' hs => ⟨.func (.func 104) #[] #[.pointer (some ⟨w.heap.size + 1, 0, none⟩)], by simp [results, Tryz.results73, go_sem], ⟨w.heap.size + 1, none, 0, [], er, rfl, by omega, hs.box y5, own_nil _ _ _ _ _, HER.out, fun _ => rfl, fun h => absurd h HE0.out⟩, B2.trans hs.below⟩)
  · have HER := Lib.hid her
    have hok : M.mvsOk l := by
      rcases HER.out with ⟨h1, h2, -⟩ | ⟨-, -, h⟩ | ⟨-, h⟩
      · exact h1
      · cases h
      · cases h
    have hR := M.rows_ok (ps := ps) hok.1
    have hl512 := hok.1
    have HRL : Hid ((M.rows ps l).length = l.length) := Lib.hid (M.rows_len ps l)
    have c3 := y3.c1
    have hgf := hGO.far
    have hgl := hGO.lt
    have es0 : EdS w w2 LA l.length lc (w.heap.size + 1) V.heap.size g bg (M.rows ps l) arcs none 0 [] := ⟨B2, y3, y5, own_nil _ _ _ _ _, hGO⟩
    clear her hok
    go_wp2_with fail
    have HB5 : Hid (w.heap.size < w.heap.size + 1 ∧ w.heap.size + 1 < V.heap.size) := Lib.hid ⟨by omega, by have := HSV.out; omega⟩
    clear c3 y3 y5 hGO hg
    refine wp_loop_mrg [8, 9, 10, 21, 22, 23, 24, 25, 26, 27, 28, 29, 30, 31, 32, 33, 34, 35, 36, 37, 38, 39, 40, 41, 42, 43] (fun mm f ds W1 => ∃ (v : Nat) (A : Option Addr) (c : Nat), f 21 = .int .i64 v ∧ mm = l.length - v ∧ v ≤ l.length ∧ EdS w W1 LA l.length lc (w.heap.size + 1) V.heap.size g bg (M.rows ps l) arcs A c (M.edgT ps l v) ∧ w2.heap.size ≤ W1.heap.size ∧ Marks w2.heap.size W1.heap.size ds W1) l.length ⟨0, none, 0, rfl, rfl, Nat.zero_le _, es0, Nat.le_refl _, Marks.none_⟩ ?_
    clear es0
    intro c2' T2' hc2 hT2
    rintro mm f ds W1 ⟨v, A, c, hf21, rfl, hv, hes, hsz, hM⟩
    replace hc2 := hc2.out
    subst hc2
    replace hT2 := hT2.out
    subst hT2
    generalize hF : mrgF _ 0 _ _ = F
    simp only [mrg_hit, mrg_miss, mrg_end, Nat.reduceBEq, Nat.reduceAdd] at hF
    rw [hf21] at hF
    subst hF
    by_cases hlt : v < l.length
    · have x0 : (0 : Int) ≤ (v : Int) := by omega
      have x1 : (v : Int) < (l.length : Int) := by omega
      have q0 : decide ((v : Int) < (l.length : Int)) = true := decide_eq_true x1
      have hrl : v < (M.rows ps l).length := by rw [HRL.out]; exact hlt
      obtain ⟨la, hla, hlb, a0, a1, a2, a3, a4, a5⟩ := (hL0.out W1 hes.bel).mv6 hlt
      obtain ⟨X1, HX1, x9, x80, hbX1, hsX1⟩ := boxes2 W1 (mvc l[v]) 66 #[.int .i64 v] 3
      have hX1 := HX1.out
      clear hsX1
      have kN := dpNext_ok bg _ l.length (M.rows ps l) arcs (some ⟨W1.heap.size + 1, 0, none⟩) 1 [v] X1 (hes.go.next hbX1).dg hR (by simpa using hrl) (Sl.of_box x80 rfl) (by simp)
      have hse : (Dg.row (M.rows ps l) v).testBit v = false := M.row_self hlt
      rw [nextF_one hse] at kN
      have HRF : Hid (∀ x ∈ Bs.els (Dg.row (M.rows ps l) v) 0, x < l.length) := Lib.hid (fun x hx => by
        have h1 := hR.fit _ _ ((Bs.mem_els (hR.row_fit v)).1 hx)
        rwa [HRL.out] at h1)
      have HED : Hid (M.edgT ps l (v + 1) = M.edgT ps l v ++ (Bs.els (Dg.row (M.rows ps l) v) 0).map fun x => (l[v].st, M.stv l x)) := Lib.hid (by rw [M.edgT_succ, M.stv_at hlt])
      have HEL := Lib.hid (M.edgT_len ps l v)
      generalize M.edgT ps l v = ev at *
      generalize Dg.row (M.rows ps l) v = rw_ at *
      generalize l[v] = m at *
      subst hla
      clear hse
      go_wp2_with fail
      clear hX1 a0 a1 a2 a3 a4 a5
      refine kN.mono ?_
      rintro e w5 ⟨rfl, hb5⟩
      clear kN
      have hes5 := (hes.next hbX1).next hb5
      have z9 := x9.below hb5
      have hM5 := (hM.below hbX1).below hb5
      go_wp2_with fail
      refine (bsAll_ok rw_ w5).mono ?_
      rintro e w6 ⟨rfl, hb6, hs6, xb⟩
      have hes6 := hes5.next hb6
      have z9' := z9.below hb6
      have hsz6 : W1.heap.size ≤ w6.heap.size := by have := hbX1.size; have := hb5.size; have := hb6.size; omega
      have hM6 := (hM5.below hb6).more (C' := w6.heap.size) hsz6
      have HSZ : Hid (w.heap.size ≤ w6.heap.size ∧ V.heap.size ≤ w6.heap.size ∧ w2.heap.size ≤ w6.heap.size ∧ w2.heap.size ≤ W1.heap.size) := Lib.hid (by have := hb2.size; have := HSV.out; omega)
      have HVL : Hid (v < l.length ∧ l.length ≤ 512) := Lib.hid ⟨hlt, hl512⟩
      have HS69 : Hid (W1.heap.size < w6.heap.size) := Lib.hid z9'.lt
      clear hes5 hM5 hM z9 hes
      go_wp2_with fail
      refine wp_range (gf := 123) (lb := #[.pointer (some ⟨w5.heap.size, 0, none⟩)]) rfl (enters_of Tryz.func123 (by kernel_rfl) rfl) (bsAll_seq w5.heap.size rw_) (fun _ => rfl)
        (fun pre W => (∃ A c, EdS w W (some la) l.length lc (w.heap.size + 1) V.heap.size g bg (M.rows ps l) arcs A c (ev ++ pre.map fun x => (m.st, M.stv l x))) ∧ Box W W1.heap.size (mvc m) 66 ∧ Box W w5.heap.size (bsc rw_) 169 ∧ Marks w2.heap.size w6.heap.size ds W) (fun _ _ _ => False)
        ?hI (fun _ _ _ _ _ h => h.elim) ?hK ⟨⟨A, c, by simpa using hes6⟩, z9', xb, hM6⟩ ?round ?done (fun _ _ _ h => h.elim)
      case hI => exact fun pre W W' row ⟨⟨A, c, h1⟩, h2, h3, h4⟩ hg hr => ⟨⟨A, c, h1.own' HSZ.out.1 hg hr⟩, h2.own hg hr, h3.own hg hr, h4.own (Nat.le_refl _) hg hr⟩
      case hK => exact fun pre W ⟨⟨A, c, h1⟩, h2, h3, h4⟩ => ⟨h3, ht.kept h1.bel⟩
      case round =>
        clear z9' xb hes6 hM6
        intro r' pre x post W hL hl' hd hi'
        gi_wp2
        refine ⟨hl', hd, hi', fun _ => True, fun _ _ _ _ _ _ _ => trivial, trivial, ?_⟩
        clear hl' hd hi'
        rintro r'' W2 hl' hd ⟨⟨A, c, h1⟩, h2, h3, h4⟩ -
        have hxl := HRF.out x (by rw [hL]; simp)
        have hpl : pre.length < 512 := by have := Bs.els_len rw_ 0; rw [hL] at this; simp at this; omega
        have hel : (ev ++ pre.map fun x => (m.st, M.stv l x)).length ≤ 1000000 := by
          have h6 := HVL.out
          rw [List.length_append, List.length_map]
          have : (ev).length ≤ 512 * v := HEL.out
          omega
        have HMP : Hid ((pre ++ [x]).map (fun x => (m.st, M.stv l x)) = pre.map (fun x => (m.st, M.stv l x)) ++ [(m.st, M.stv l x)]) := Lib.hid (by simp)
        clear hL
        obtain ⟨lm, hlm, hlmb, m0, -⟩ := (hL0.out W2 h1.bel).mv6 hxl
        obtain rfl := Option.some.inj hlm
        rw [M.stv_at hxl] at m0
        generalize M.stv l x = sx at *
        rw [HMP.out, ← List.append_assoc]
        generalize ev ++ pre.map (fun x => (m.st, M.stv l x)) = bs at *
        have y0 : (0 : Int) ≤ (x : Int) := by omega
        have y1 : (x : Int) < (l.length : Int) := by omega
        have D5 := h1.x5.c1
        have D9 := h2.cell 0 rfl
        have D3 := h1.x3.c1
        gi_wp2_with fail
        refine wpIn_of_any (by kernel_rfl) (by kernel_rfl) ?_
        refine wpAny_of_L (S := fun ls w' => (ls.getD 10 true = false → w'.cell? ⟨w.heap.size + 1, 0, none⟩ = some (.slice A bs.length c)) ∧ (ls.getD 8 true = false → w'.cell? ⟨W1.heap.size, 0, none⟩ = some (.int .i64 m.st)) ∧ (ls.getD 5 true = false → w'.cell? ⟨w.heap.size, 0, none⟩ = some (.slice (some la) l.length lc))) _ _ _ _ ?_
        refine wpAnyL_take (i := 0) (q := 10) (v := .slice A bs.length c) (fun w' => w'.cell? ⟨w.heap.size + 1, 0, none⟩ = some (.slice A bs.length c)) rfl (by kernel_rfl) (by kernel_rfl) (by kernel_rfl) (fun c a w h => h) rfl (by kernel_rfl) (by decide) (fun ls w => by simp) (fun ls w h1 h2 => h2.1 h1) rfl rfl (fun w h => by go_simp) ⟨fun _ => D5, fun _ => D9, fun _ => D3⟩ ?_
        try simp only [Act.put]
        refine wpAnyL_take (i := 1) (q := 2) (v := .pointer (some ⟨W1.heap.size, 0, none⟩)) (fun w' => True) rfl (by kernel_rfl) (by kernel_rfl) (by kernel_rfl) (fun c a w h => h) rfl (by kernel_rfl) (by decide) (fun ls w => by simp) (fun ls w h1 h2 => trivial) rfl rfl (fun w h => by go_simp) ⟨fun _ => D5, fun _ => D9, fun _ => D3⟩ ?_
        try simp only [Act.put]
        refine wpAnyL_take (i := 2) (q := 8) (v := .int .i64 m.st) (fun w' => w'.cell? ⟨W1.heap.size, 0, none⟩ = some (.int .i64 m.st)) rfl (by kernel_rfl) (by kernel_rfl) (by kernel_rfl) (fun c a w h => h) rfl (by kernel_rfl) (by decide) (fun ls w => by simp) (fun ls w h1 h2 => h2.2.1 h1) rfl rfl (fun w h => by go_simp) ⟨fun _ => D5, fun _ => D9, fun _ => D3⟩ ?_
        try simp only [Act.put]
        refine wpAnyL_take (i := 3) (q := 5) (v := .slice (some la) l.length lc) (fun w' => w'.cell? ⟨w.heap.size, 0, none⟩ = some (.slice (some la) l.length lc)) rfl (by kernel_rfl) (by kernel_rfl) (by kernel_rfl) (fun c a w h => h) rfl (by kernel_rfl) (by decide) (fun ls w => by simp) (fun ls w h1 h2 => h2.2.2 h1) rfl rfl (fun w h => by go_simp) ⟨fun _ => D5, fun _ => D9, fun _ => D3⟩ ?_
        try simp only [Act.put]
        refine wpAnyL_take (i := 4) (q := 5) (v := .int .i64 x) (fun w' => True) rfl (by kernel_rfl) (by kernel_rfl) (by kernel_rfl) (fun c a w h => h) rfl (by kernel_rfl) (by decide) (fun ls w => by simp) (fun ls w h1 h2 => trivial) rfl rfl (fun w h => by go_simp) ⟨fun _ => D5, fun _ => D9, fun _ => D3⟩ ?_
        try simp only [Act.put]
        refine wpAnyL_one (i := 5) (by kernel_rfl) ?_
        refine wpOp_K (fun K hK => ?_)
        refine wpOp_one rfl rfl ?_
        go_simp
        refine hK _ _ ⟨⟨fun _ => D5, fun _ => D9, fun h => absurd h (by simp)⟩, ?_⟩
        clear hK K
        try simp only [Act.put]
        refine wpAnyL_one (i := 6) (by kernel_rfl) ?_
        refine wpOp_K (fun K hK => ?_)
        refine wpOp_one rfl rfl ?_
        go_simp
        refine hK _ _ ⟨⟨fun _ => D5, fun _ => D9, fun h => absurd h (by simp)⟩, ?_⟩
        clear hK K
        try simp only [Act.put]
        refine wpAnyL_one (i := 7) (by kernel_rfl) ?_
        refine wpOp_K (fun K hK => ?_)
        refine wpOp_one rfl rfl ?_
        go_simp
        refine hK _ _ ⟨⟨fun _ => D5, fun _ => D9, fun h => absurd h (by simp)⟩, ?_⟩
        clear hK K
        try simp only [Act.put]
        refine wpAnyL_one (i := 8) (by kernel_rfl) ?_
        refine wpOp_K (fun K hK => ?_)
        refine wpOp_one rfl rfl ?_
        go_simp
        refine hK _ _ ⟨⟨fun _ => D5, fun h => absurd h (by simp), fun h => absurd h (by simp)⟩, ?_⟩
        clear hK K
        try simp only [Act.put]
        refine wpAnyL_one (i := 9) (by kernel_rfl) ?_
        refine wpOp_K (fun K hK => ?_)
        refine wpOp_one rfl rfl ?_
        go_simp
        refine hK _ _ ⟨⟨fun _ => ?_, fun h => absurd h (by simp), fun h => absurd h (by simp)⟩, ?_⟩
        · exact (World.cell?_alloc_lt W2.drew _ ⟨w.heap.size + 1, 0, none⟩ h1.x5.lt).trans D5
        clear hK K
        try simp only [Act.put]
        refine wpAnyL_one (i := 10) (by kernel_rfl) ?_
        refine wpOp_K (fun K hK => ?_)
        refine wpOp_one rfl rfl ?_
        have h1d := h1.next (Below.refl W2.heap.size W2).drew
        have hld := hl'.below (Below.refl W2.heap.size W2).drew
        have hdd := hd.below (Below.refl W2.heap.size W2).drew
        have h2d := h2.below (Below.refl W2.heap.size W2).drew
        have h3d := h3.below (Below.refl W2.heap.size W2).drew
        have h4d := h4.below (Below.refl W2.heap.size W2).drew
        have hVW : V.heap.size ≤ W2.drew.heap.size := Nat.le_of_lt (Nat.lt_of_le_of_lt h1.go.lt.1 h1.go.lt.2)
        refine push_wp (w := W2.drew) (w0 := w) (cell := e2cell) (y := (m.st, sx)) _ _ _ rfl V.heap.size w.heap.size 152 ie _ 16 Tryz.underlying178 Hie.out Hze0.out Hze1.out Hze2.out rfl (by decide) (.slice A bs.length c) bs.length bs (by simp [Act.eval]) h1d.own _ _ rfl 1 (by simp [Act.eval]) (e2_one _) (by unfold maxLen; omega) (by omega) hVW (by have := HB5.out; omega) h1d.bel ?_
        intro v' w8 hown8 hb8 hg8
        obtain ⟨g8, cap8, rfl⟩ := ownsRow_succ hown8
        have p8 := h1d.push HB5.out hb8 hown8 hg8
        have x58 := h1d.x5.grown hg8 (h1d.x5.ne_own (by decide) h1d.own)
        have f58 := x58.frozen 0
        have c58 := x58.c1
        have x28 := h2d.grown hg8 (h2d.ne_own (by decide) h1d.own)
        have x38 := h3d.grown hg8 (h3d.ne_own (by decide) h1d.own)
        have hl8 := hld.grown hg8 (Hold.ne_own hld rfl h1d.own)
        have hd8 := hdd.grown hg8 (Hold.ne_own hdd rfl h1d.own)
        have m8 := h4d.grown h1d.own hg8
        refine hK _ _ ⟨⟨fun h => absurd h (by simp), fun h => absurd h (by simp), fun h => absurd h (by simp)⟩, ?_⟩
        clear hK K
        try simp only [Act.put]
        refine wpAnyL_one (i := 11) (by kernel_rfl) ?_
        refine wpOp_K (fun K hK => ?_)
        refine wpOp_one rfl rfl ?_
        go_simp
        refine hK _ _ ⟨⟨fun h => absurd h (by simp), fun h => absurd h (by simp), fun h => absurd h (by simp)⟩, ?_⟩
        clear hK K
        try simp only [Act.put]
        refine wpAnyL_done (by kernel_rfl) ?_ _
        refine onlyK_of ?_
        gi_wp2_with fail
        refine ⟨hl8.set_other (hl8.ne_box rfl x58) _, hd8.set_other (hd8.ne_box rfl x58) _, ⟨some ⟨g8, 0, none⟩, cap8, p8⟩, x28.set_other (p := ⟨w.heap.size + 1, 0, none⟩) (by dsimp only; have := HB5.out; have := HSZ.out; have := hb2.size; omega) _, x38.set_other (p := ⟨w.heap.size + 1, 0, none⟩) (by dsimp only; have := HB5.out; have := HSZ.out; have := hb2.size; have := hbX1.size; have := hb5.size; omega) _, m8.set_other x58 _⟩
      case done =>
        rintro W ⟨⟨A, c, h1⟩, h2, h3, h4⟩ hD
        rw [← HED.out] at h1
        have hMf := h4.cons (C := w6.heap.size) (D := w6.heap.size) HSZ.out.2.2.1 (Nat.le_refl _) hD
        have hDl := hD.lt
        have hMg := hMf.more (C' := W.heap.size) (by omega)
        have hszW : w2.heap.size ≤ W.heap.size := by have := HSZ.out; omega
        clear h2 h3 hD z9' xb hM6 hs6 hMf h4 hes6
        go_wp2_with fail
        exact ⟨_, rfl, rfl, l.length - (v + 1), by omega, v + 1, A, c, rfl, rfl, hlt, h1, hszW, hMg⟩
    · obtain rfl : v = l.length := by omega
      have q0 : decide ((l.length : Int) < (l.length : Int)) = false := decide_eq_false (by omega)
      have HF : Hid (M.edgT ps l l.length = M.edg ps l) := Lib.hid rfl
      rw [HF.out] at hes
      generalize hee : M.edg ps l = ee at *
      have HEE := Lib.hid hee
      clear hee
      go_wp2_with fail
      refine leaves_marks (B := w2.heap.size) (C := W1.heap.size) _ _ hM (fun W' hs => ⟨.func (.func 104) #[] #[.pointer (some ⟨w.heap.size + 1, 0, none⟩)], by simp [results, Tryz.results73, go_sem], ⟨w.heap.size + 1, A, c, ee, 0, rfl, by omega, hs.box hes.x5, own_base (hs.own hes.own) (by have := HB5.out; omega), HER.out, fun h => absurd rfl h, fun _ => HEE.out.symm⟩, hes.bel.trans (hs.below.mono B2.size)⟩)
end Go.Proofs.YtpkepgcmifdpfaaGreatDoor
end

section
namespace Go.Proofs.YtpkepgcmifdpfaaGreatDoor
open Go Go.RowKit
set_option maxRecDepth 100000
def fnl {α : Type} (n : Nat) (f : Nat → α) : List α := (List.range n).map f
section
variable {α : Type} {n : Nat} {f g : Nat → α}
theorem fnl_len : (fnl n f).length = n := by simp [fnl]
theorem fnl_at {k : Nat} (hk : k < (fnl n f).length) : (fnl n f)[k] = f k := by simp [fnl]
theorem fnl_congr (h : ∀ k, k < n → f k = g k) : fnl n f = fnl n g := by
  unfold fnl
  exact List.map_congr_left fun k hk => h k (List.mem_range.1 hk)
theorem fnl_set (k : Nat) (x : α) : (fnl n f).set k x = fnl n fun j => if j = k then x else f j := by
  apply List.ext_getElem
  · simp [fnl]
  · intro i h1 h2
    rw [List.getElem_set, fnl_at h2, fnl_at (by simpa using h1)]
    by_cases e : k = i
    · subst e; simp
    · rw [if_neg e, if_neg (fun h => e h.symm)]
end
def hvc (v : Value) (_ : Nat) : Value := v
def hdr (b : Nat → Nat) (n m : Nat) (i : Nat) : Value := if i < m then .slice (some ⟨b i, 0, none⟩) n n else .slice none 0 0
abbrev BR (w : World) (base g n : Nat) (f : Nat → Bool) : Prop := w.ownsRow base 4 1 (.slice (some ⟨g, 0, none⟩) n n) n (flat 1 blc (fnl n f))
section
variable {w : World} {base g n : Nat} {f : Nat → Bool}
theorem BR.at (h : BR w base g n f) {k : Nat} (hk : k < n) : w.cell? ⟨g, k, none⟩ = some (.bool (f k)) ∧ w.frozen? ⟨g, k, none⟩ = false := by
  have := own_at (size := 1) (cell := blc) h (k := k) (j := 0) (by rw [fnl_len]; exact hk) (by decide)
  rw [Nat.mul_one, Nat.add_zero, fnl_at] at this
  exact this
theorem BR.set (h : BR w base g n f) {k : Nat} (hk : k < n) (v : Bool) : BR (w.setCell ⟨g, k, none⟩ (.bool v)) base g n (fun j => if j = k then v else f j) := by
  have h3 := own_set (size := 1) (cell := blc) h (k := k) (by rw [fnl_len]; exact hk) (j := 0) (y := v) (u := .bool v) (by decide) rfl (fun j' h1 h2 => absurd h1 (by omega))
  rw [Nat.mul_one, Nat.add_zero, fnl_set] at h3
  exact h3
theorem BR.congr {f' : Nat → Bool} (h : BR w base g n f) (e : ∀ k, k < n → f k = f' k) : BR w base g n f' := by
  unfold BR at *
  rw [← fnl_congr e]
  exact h
end
structure TB (w : World) (base g n m : Nat) (b : Nat → Nat) (f : M.Tb) : Prop where
  outer : w.ownsRow base 104 1 (.slice (some ⟨g, 0, none⟩) n n) n (flat 1 hvc (fnl n (hdr b n m)))
  row : ∀ i, i < m → BR w base (b i) n (f i)
  mono : ∀ i j, i < j → j < m → b i < b j
  far : ∀ i, i < m → g < b i
section
variable {w w' : World} {base g n m : Nat} {b : Nat → Nat} {f : M.Tb}
theorem TB.next (h : TB w base g n m b f) (hb : Below w.heap.size w w') : TB w' base g n m b f := ⟨own_below h.outer hb, fun i hi => own_below (h.row i hi) hb, h.mono, h.far⟩
theorem TB.head (h : TB w base g n m b f) {i : Nat} (hm : m ≤ n) (hi : i < m) : w.cell? ⟨g, i, none⟩ = some (.slice (some ⟨b i, 0, none⟩) n n) := by
  have := (own_at (size := 1) (cell := hvc) h.outer (k := i) (j := 0) (by rw [fnl_len]; omega) (by decide)).1
  rw [Nat.mul_one, Nat.add_zero, fnl_at] at this
  rw [this]
  unfold hvc hdr
  rw [if_pos hi]
theorem TB.at (h : TB w base g n m b f) {i k : Nat} (hi : i < m) (hk : k < n) : w.cell? ⟨b i, k, none⟩ = some (.bool (f i k)) ∧ w.frozen? ⟨b i, k, none⟩ = false := (h.row i hi).at hk
theorem TB.lt (h : TB w base g n m b f) {i : Nat} (hi : i < m) : base ≤ b i ∧ b i < w.heap.size := own_lt (h.row i hi)
theorem TB.inj (h : TB w base g n m b f) {i j : Nat} (hi : i < m) (hj : j < m) (e : b i = b j) : i = j := by
  rcases Nat.lt_trichotomy i j with h1 | h1 | h1
  · have := h.mono i j h1 hj; omega
  · exact h1
  · have := h.mono j i h1 hi; omega
theorem TB.set (h : TB w base g n m b f) {i k : Nat} (hi : i < m) (hk : k < n) (v : Bool) : TB (w.setCell ⟨b i, k, none⟩ (.bool v)) base g n m b (M.upd f i k v) := by
  refine ⟨h.outer.kept (grown_set w (b i) k (.bool v)) (.inr (fun e => by have e2 : g = b i := Option.some.inj e; have := h.far i hi; omega)), fun j hj => ?_, h.mono, h.far⟩
  by_cases e : j = i
  · subst e
    have h3 := (h.row j hj).set hk v
    refine h3.congr fun c _ => ?_
    unfold M.upd
    by_cases e2 : c = k
    · subst e2; rw [if_pos rfl, if_pos ⟨rfl, rfl⟩]
    · rw [if_neg e2, if_neg (fun h => e2 h.2)]
  · have h3 := World.ownsRow.kept (h.row j hj) (grown_set w (b i) k (.bool v)) (.inr (fun e2 => e (h.inj hj hi (Option.some.inj e2))))
    refine BR.congr (f := f j) h3 fun c _ => ?_
    unfold M.upd
    rw [if_neg (fun h => e h.1)]
theorem TB.kept {row : Option Nat} (h : TB w base g n m b f) (hg : w.grownBy w' row) (h1 : row ≠ some g) (h2 : ∀ i, i < m → row ≠ some (b i)) : TB w' base g n m b f :=
  ⟨h.outer.kept hg (.inr (fun e => h1 e.symm)), fun i hi => (World.ownsRow.kept (h.row i hi) hg (.inr (fun e => h2 i hi e.symm))), h.mono, h.far⟩
theorem TB.more (h : TB w base g n m b f) {c : Nat} (hm : m < n) (hr : BR w base c n (fun _ => false)) (hc : ∀ i, i < m → b i < c) (hgc : g < c) :
    TB (w.setCell ⟨g, m, none⟩ (.slice (some ⟨c, 0, none⟩) n n)) base g n (m + 1) (fun i => if i = m then c else b i) (fun i k => if i = m then false else f i k) := by
  refine ⟨?_, fun i hi => ?_, fun i j hij hj => ?_, fun i hi => ?_⟩
  · have h3 := own_set (size := 1) (cell := hvc) h.outer (k := m) (by rw [fnl_len]; exact hm) (j := 0) (y := .slice (some ⟨c, 0, none⟩) n n) (u := .slice (some ⟨c, 0, none⟩) n n) (by decide) rfl (fun j' h1 h2 => absurd h1 (by omega))
    rw [Nat.mul_one, Nat.add_zero, fnl_set] at h3
    have e : (fun j => if j = m then Value.slice (some ⟨c, 0, none⟩) n n else hdr b n m j) = hdr (fun i => if i = m then c else b i) n (m + 1) := by
      funext j
      unfold hdr
      by_cases e : j = m
      · subst e; rw [if_pos rfl, if_pos (by omega)]; simp
      · rw [if_neg e]
        by_cases h4 : j < m
        · rw [if_pos h4, if_pos (by omega)]; simp [e]
        · rw [if_neg h4, if_neg (by omega)]
    rwa [e] at h3
  · by_cases e : i = m
    · subst e
      simp only [if_pos]
      exact World.ownsRow.kept hr (grown_set w g i _) (.inr (fun e => by have e2 : c = g := Option.some.inj e; omega))
    · simp only [if_neg e]
      exact World.ownsRow.kept (h.row i (by omega)) (grown_set w g m _) (.inr (fun e2 => by have e2 : b i = g := Option.some.inj e2; have := h.far i (by omega); omega))
  · by_cases e : j = m
    · subst e
      have e3 : i ≠ j := by omega
      simp only [if_neg e3, if_pos]
      exact hc i hij
    · have e3 : i ≠ m := by omega
      simp only [if_neg e3, if_neg e]
      exact h.mono i j hij (by omega)
  · by_cases e : i = m
    · subst e; simp only [if_pos]; exact hgc
    · simp only [if_neg e]; exact h.far i (by omega)
theorem TB.congr {f' : M.Tb} (h : TB w base g n m b f) (e : ∀ i k, i < m → k < n → f i k = f' i k) : TB w base g n m b f' := ⟨h.outer, fun i hi => (h.row i hi).congr (fun k hk => e i k hi hk), h.mono, h.far⟩
end
end Go.Proofs.YtpkepgcmifdpfaaGreatDoor
end

section
namespace Go.Proofs.YtpkepgcmifdpfaaGreatDoor
open Go Go.RowKit
set_option maxRecDepth 100000
namespace M
structure Ints (ps : List P5) (l : List Mv) : Prop where
 p : ∀ p ∈ ps, W64 p.a ∧ W64 p.b ∧ W64 p.c
 l : ∀ m ∈ l, W64 m.st ∧ W64 m.old ∧ W64 m.new
end M
theorem rWaits_in (PA : Option Addr) (pc np : Nat) (ps : List P5) (l : List Mv) (w : World) (hnp : np = ps.length) (hP : Sl 5 p5cell w w.heap.size PA ps) (hpl : ps.length ≤ 9223372036854775806) (hi : M.Ints ps l) {i k : Nat} (h1 : i < l.length) (h2 : k < l.length) (u : World) (hu : Below w.heap.size w u) :
  Calls Tryz.prog 66 #[.slice PA np pc, mvv l[i], mvv l[k]] u fun e w' => e = .returned (.bool (M.dep0 (M.rows ps l) i k)) ∧ Below u.heap.size u w' := by
 subst hnp
 have h3 := rWaits_ok PA pc ps l[i] l[k] u ((hP.below hu).more hu.size) hpl
 rw [M.rwaits_eq (hi.l _ (List.getElem_mem h1)).2.2 (hi.l _ (List.getElem_mem h2)).2.1 (fun p hp => (hi.p p hp).2.2), ← M.rows_at h1 h2] at h3
 exact h3
end Go.Proofs.YtpkepgcmifdpfaaGreatDoor
end
