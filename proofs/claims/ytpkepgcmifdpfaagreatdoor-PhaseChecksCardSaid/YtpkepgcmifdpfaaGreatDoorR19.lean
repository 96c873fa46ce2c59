/- A bundle of texts: Tw7, Gr4, LgM, Lg1. -/
import Derived.Test.YtpkepgcmifdpfaaGreatDoorR18
import Derived.Test.YtpkepgcmifdpfaaGreatDoorR15
import Derived.Test.YtpkepgcmifdpfaaGreatDoorR01
import Derived.BigQuiet
import Derived.Test.YtpkepgcmifdpfaaGreatDoorR04
section
namespace Go.Proofs.YtpkepgcmifdpfaaGreatDoor
open Go Go.RowKit Go.Maps
set_option maxRecDepth 100000
theorem wf_wrap (z : Int) : (Lit.int .i64 (IntKind.i64.wrap z)).wf = true := by
  have := IntWalk.i64_left z
  simp [Lit.wf, IntKind.wrap, IntKind.min, IntKind.max, IntKind.signed, IntKind.bits]
  omega
theorem ownsMap_draw {P : Program} {k : TypeId} {R : Value → Option (DataW Unit × List MemPlace)} {b n : Nat} {D : DataW Unit} {w : World} (h : w.ownsMap P k R b n D) : w.drew.ownsMap P k R b n D := h
theorem grown_drew {w w' : World} {row : Option Nat} (h : w.drew.grownBy w' row) : w.grownBy w' row := ⟨h.os, h.tape, h.output, h.size, h.block⟩
set_option maxHeartbeats 32000000 in
theorem bound_reg12 {Q : Exit → Act → World → Prop} {cd : Code} {dl : List Deferred} {Z0 Z1 Z2 Z3 Z4 Z5 Z6 Z7 Z8 Z9 Za Zc Ze Zg Zh Zi Zj Zk Zl Zm Zn Zo Zp Zq Zr Zs Zt Zu Zv Zw Zx Zy Zz Z10 Z11 Z12 Z13 Z14 Z15 Z16 Z17 Z18 Z19 Z1a Z1b Z1c Z1d Z1e Z1f Z1g Z1h Z1i Z1j Z1k Z1l Z1m Z1n Z1o Z1p Z1q Z1r Z1s Z1t Z1u : Value} {bm nn pb mb : Nat} {D : DataW Unit} {p : M.Pl} {m : Mv} {X : World} (hown : X.ownsMap Tryz.prog 145 (plainElem (H := Unit) Tryz.prog 3) bm nn D) (hM : IsMap D) (hnn : nn < maxLen) (hp : 0 ≤ p.2 ∧ p.2 ≤ 1000000) (hpb : Box X pb #[.bool p.1, .int .i64 p.2] 145) (hmb : Box X mb (mvc m) 66) (hbp : bm ≠ pb) (hbm : bm ≠ mb) (hcd : (Tryz.f82.body.bind (regionOf 12)) = some cd)
    (hQ : ∀ (y42 y43 y44 y45 y46 y47 y48 y49 : Value) (wo : World) (c : Int), D.atKey (plit p) (.lit (.int .i64 0)) = .lit (.int .i64 c) → wo.ownsMap Tryz.prog 145 (plainElem (H := Unit) Tryz.prog 3) bm (nn + 1) (D.put (plit p) (.lit (.int .i64 (IntKind.i64.wrap (c + m.wk))))) → X.grownBy wo (some bm) → Q .normal ⟨#[Z0,Z1,Z2,Z3,Z4,Z5,Z6,Z7,Z8,Z9,Za,.map (some bm),Zc,.pointer (some ⟨mb, 0, none⟩),Ze,.pointer (some ⟨pb, 0, none⟩),Zg,Zh,Zi,Zj,Zk,Zl,Zm,Zn,Zo,Zp,Zq,Zr,Zs,Zt,Zu,Zv,Zw,Zx,Zy,Zz,Z10,Z11,Z12,Z13,Z14,Z15,y42,y43,y44,y45,y46,y47,y48,y49,Z1e,Z1f,Z1g,Z1h,Z1i,Z1j,Z1k,Z1l,Z1m,Z1n,Z1o,Z1p,Z1q,Z1r,Z1s,Z1t,Z1u], dl⟩ wo) :
    cd.wp Tryz.prog Q ⟨#[Z0,Z1,Z2,Z3,Z4,Z5,Z6,Z7,Z8,Z9,Za,.map (some bm),Zc,.pointer (some ⟨mb, 0, none⟩),Ze,.pointer (some ⟨pb, 0, none⟩),Zg,Zh,Zi,Zj,Zk,Zl,Zm,Zn,Zo,Zp,Zq,Zr,Zs,Zt,Zu,Zv,Zw,Zx,Zy,Zz,Z10,Z11,Z12,Z13,Z14,Z15,Z16,Z17,Z18,Z19,Z1a,Z1b,Z1c,Z1d,Z1e,Z1f,Z1g,Z1h,Z1i,Z1j,Z1k,Z1l,Z1m,Z1n,Z1o,Z1p,Z1q,Z1r,Z1s,Z1t,Z1u], dl⟩ X := by
  rw [show (Tryz.f82.body.bind (regionOf 12)) = some (Code.region 12 _ true) from rfl] at hcd
  obtain rfl := Option.some.inj hcd
  clear hcd
  dsimp only at hQ ⊢
  have hpbd : Box X.drew pb _ _ := hpb
  have hmbd : Box X.drew mb _ _ := hmb
  obtain ⟨c, hat, hwc, hlk, st, w1, hme, hg1, hs1, hlk1, hback⟩ := entry_int (ownsMap_draw hown) placeLaw hM Tryz.underlying140 Tryz.underlying3 (zeroIntG) hnn (place_key hp) (plit_key p)
  have HB := Lib.hid hback
  have HAT := Lib.hid hat
  have HG1 := Lib.hid hg1
  clear hback hat hnn hM
  obtain ⟨D1, D2⟩ := hpbd.c2
  obtain ⟨-, -, -, -, -, D3⟩ := hmbd.c6'
  have D1' : w1.cell? ⟨pb, 0, none⟩ = some (.bool p.1) := (hpbd.grown hg1 (fun e => by have := Option.some.inj e; omega)).c2.1
  have D2' : w1.cell? ⟨pb, 1, none⟩ = some (.int .i64 p.2) := (hpbd.grown hg1 (fun e => by have := Option.some.inj e; omega)).c2.2
  have D3' : w1.cell? ⟨mb, 5, none⟩ = some (.int .i64 m.wk) := (hmbd.grown hg1 (fun e => by have := Option.some.inj e; omega)).c6'.2.2.2.2.2
  have HLD := Lib.hid hlk
  clear hlk
  refine wp_region_noPanic ?_
  refine wp_region_any (by kernel_rfl) ?_
  refine wpAny_of_L (S := (fun (ls : Array Bool) (w' : World) => ls.getD 8 true = false → (w'.cell? ⟨pb, 0, none⟩ = some (.bool p.1) ∧ w'.cell? ⟨pb, 1, none⟩ = some (.int .i64 p.2)) ∧ w'.cell? ⟨mb, 5, none⟩ = some (.int .i64 m.wk) ∧ (Instr.lookup 140 (.map (some bm)) (plv p) false).run Tryz.prog w' = .ok (.int .i64 c) w')) _ _ _ _ ?_
  change wpAnyL Tryz.prog _ _ _ _ _ _ _ X.drew
  have hlk0 : (Instr.lookup 140 (.map (some bm)) (plv p) false).run Tryz.prog X.drew = .ok (.int .i64 c) X.drew := HLD.out
  refine wpAnyL_take (i := 0) (q := 8) (v := .map (some bm)) (fun w' => True) rfl (by kernel_rfl) (by kernel_rfl) (by kernel_rfl) (fun c a w h => h) rfl (by kernel_rfl) (by decide) (fun ls w => by simp) (fun ls w h1 h2 => trivial) rfl rfl (fun w h => by go_simp) (fun _ => ⟨⟨D1, D2⟩, D3, hlk0⟩) ?_
  try simp only [Act.put]
  refine wpAnyL_take (i := 1) (q := 8) (v := plv p) (fun w' => w'.cell? ⟨pb, 0, none⟩ = some (.bool p.1) ∧ w'.cell? ⟨pb, 1, none⟩ = some (.int .i64 p.2)) rfl (by kernel_rfl) (by kernel_rfl) (by kernel_rfl) (fun c a w h => h) rfl (by kernel_rfl) (by decide) (fun ls w => by simp) (fun ls w h1 h2 => (h2 h1).1) rfl rfl (fun w h => by obtain ⟨h1, h2⟩ := h; go_simp) (fun _ => ⟨⟨D1, D2⟩, D3, hlk0⟩) ?_
  try simp only [Act.put]
  refine wpAnyL_take (i := 2) (q := 8) (v := .int .i64 c) (fun w' => (Instr.lookup 140 (.map (some bm)) (plv p) false).run Tryz.prog w' = .ok (.int .i64 c) w') rfl (by kernel_rfl) (by kernel_rfl) (by kernel_rfl) (fun c a w h => h) rfl (by kernel_rfl) (by decide) (fun ls w => by simp) (fun ls w h1 h2 => (h2 h1).2.2) rfl rfl (fun w h => by go_simp) (fun _ => ⟨⟨D1, D2⟩, D3, hlk0⟩) ?_
  try simp only [Act.put]
  refine wpAnyL_take (i := 3) (q := 8) (v := .pointer (some ⟨mb, 5, none⟩)) (fun w' => True) rfl (by kernel_rfl) (by kernel_rfl) (by kernel_rfl) (fun c a w h => h) rfl (by kernel_rfl) (by decide) (fun ls w => by simp) (fun ls w h1 h2 => trivial) rfl rfl (fun w h => by go_simp) (fun _ => ⟨⟨D1, D2⟩, D3, hlk0⟩) ?_
  try simp only [Act.put]
  refine wpAnyL_take (i := 4) (q := 8) (v := .int .i64 m.wk) (fun w' => w'.cell? ⟨mb, 5, none⟩ = some (.int .i64 m.wk)) rfl (by kernel_rfl) (by kernel_rfl) (by kernel_rfl) (fun c a w h => h) rfl (by kernel_rfl) (by decide) (fun ls w => by simp) (fun ls w h1 h2 => (h2 h1).2.1) rfl rfl (fun w h => by go_simp) (fun _ => ⟨⟨D1, D2⟩, D3, hlk0⟩) ?_
  try simp only [Act.put]
  refine wpAnyL_take (i := 5) (q := 8) (v := .int .i64 (IntKind.i64.wrap (c + m.wk))) (fun w' => True) rfl (by kernel_rfl) (by kernel_rfl) (by kernel_rfl) (fun c a w h => h) rfl (by kernel_rfl) (by decide) (fun ls w => by simp) (fun ls w h1 h2 => trivial) rfl rfl (fun w h => by go_simp) (fun _ => ⟨⟨D1, D2⟩, D3, hlk0⟩) ?_
  try simp only [Act.put]
  refine wpAnyL_one (i := 6) (by kernel_rfl) ?_
  refine wpOp_K (fun K hK => ?_)
  refine wpOp_one rfl rfl ?_
  go_simp
  refine hK _ _ ⟨(fun _ => ⟨⟨D1', D2'⟩, D3', hlk1⟩), ?_⟩
  clear hK K
  try simp only [Act.put]
  refine wpAnyL_one (i := 7) (by kernel_rfl) ?_
  refine wpOp_K (fun K hK => ?_)
  refine wpOp_one rfl rfl ?_
  go_simp
  refine hK _ _ ⟨(fun _ => ⟨⟨D1', D2'⟩, D3', hlk1⟩), ?_⟩
  clear hK K
  try simp only [Act.put]
  refine wpAnyL_one (i := 8) (by kernel_rfl) ?_
  refine wpOp_K (fun K hK => ?_)
  refine wpOp_one rfl rfl ?_
  obtain ⟨w3, hes, hown3, hg3⟩ := HB.out w1 (IntKind.i64.wrap (c + m.wk)) (wf_wrap _) rfl
  replace hes : (Instr.entryStore 140 (.map (some bm)) (.int .i64 (st : Int)) (.int .i64 (IntKind.i64.wrap (c + m.wk)))).run Tryz.prog w1 = .ok () w3 := hes
  go_simp
  refine hK _ _ ⟨(fun h => absurd h (by simp)), ?_⟩
  clear hK K
  try simp only [Act.put]
  refine wpAnyL_done (by kernel_rfl) (NoPanic.normal ?_) _
  exact hQ _ _ _ _ _ _ _ _ _ c HAT.out hown3 (grown_drew (HG1.out.trans hg3))
set_option maxHeartbeats 64000000 in
theorem towerBound_ok (LA TA CA : Option Addr) (lc tc cc : Nat) (l : List Mv) (T C : List Si) (w : World) (hL : Sl 6 mvcell w w.heap.size LA l) (hT : Sl 2 sicell w w.heap.size TA T) (hC : Sl 2 sicell w w.heap.size CA C) (hl : l.length ≤ 9223372036854775806) (hTl : T.length ≤ 9223372036854775806) (hCl : C.length ≤ 9223372036854775806) :
    Calls Tryz.prog 82 #[.slice LA l.length lc, .slice TA T.length tc, .slice CA C.length cc] w fun e w' => (∃ (er v : Int), M.twIs l T C er ∧ e = .returned (.tuple #[.int .i64 v, .int .i64 er])) ∧ Below w.heap.size w w' := by
  have kC := capacities_ok LA TA CA lc tc cc l T C w hL hT hC hl hTl hCl
  go_enter Tryz.func82, Tryz.ntmps82
  go_wp2_with fail
  refine kC.mono ?_
  rintro e w1 ⟨⟨er, her, hcase⟩, hb1⟩
  clear kC
  rcases hcase with ⟨hne, rfl⟩ | ⟨rfl, bs, ns, Ds, rfl, hbs, hown1, hPD⟩
  · have q0 : (er == 0) = false := by simpa using hne
    have q1 : (er != 0) = true := by simpa using hne
    have HER := Lib.hid her
    clear her hne
    go_wp2_with fail
    go_ret2
    exact ⟨⟨er, 0, HER.out, rfl⟩, hb1⟩
  have HER := Lib.hid her
  have HPD := Lib.hid hPD
  have HOK : Hid (M.twOk l T C ∧ M.twAll l T C) := Lib.hid (by
    rcases her with ⟨h1, h2, -⟩ | ⟨-, -, h⟩ | ⟨-, h⟩
    · exact ⟨h1, h2⟩
    all_goals cases h)
  have hl512 := HOK.out.1.1.1
  have hbs1 := hown1.lt
  clear her hPD
  have hmm := @run_makeMap Tryz.prog
  obtain ⟨U, HU⟩ : ∃ U, Hid (w1.alloc (.map #[] 0) = U) := ⟨_, Lib.hid rfl⟩
  have hU := HU.out
  have hbU : Below w1.heap.size w1 U := by rw [← hU]; exact (Below.refl _ _).alloc (Nat.le_refl _) _
  have BU := after_ hb1 hbU
  have hownU : U.ownsMap Tryz.prog 145 (plainElem (H := Unit) Tryz.prog 3) w1.heap.size 0 (.map []) := by rw [← hU]; exact World.ownsMap_made _ _ _ _
  have hsU := hown1.kept (below_grown hbU) (by simp)
  have hwb : w.heap.size ≤ w1.heap.size := hb1.size
  go_wp2_with fail
  clear hU hmm hbU hown1
  generalize w1.heap.size = bm at *
  go_loopw [10, 13, 15, 29] (fun s10 _ _ i wr => ∃ (k nn : Nat) (D : DataW Unit) (v : Int), k ≤ l.length ∧ nn ≤ 2 * k ∧ i = .int .i64 k ∧ s10 = .int .i64 v ∧ Below w.heap.size w wr ∧ wr.ownsMap Tryz.prog 145 (plainElem (H := Unit) Tryz.prog 3) bm nn D ∧ wr.ownsMap Tryz.prog 145 (plainElem (H := Unit) Tryz.prog 3) bs ns Ds ∧ Hid (IsMap D)) (fun _ _ _ i _ => l.length - (intOf i).toNat)
  case atStart => exact ⟨0, 0, .map [], 0, Nat.zero_le _, Nat.le_refl _, rfl, rfl, BU, hownU, hsU, Lib.hid isMap_empty⟩
  case round =>
    clear hownU hsU BU
    obtain ⟨k, nn, D, v, hk, hnn, rfl, rfl, hBr, hown, hsit, HM⟩ := hrel
    by_cases hlt : k < l.length
    · obtain ⟨la, rfl, hlb, a0, a1, a2, a3, a4, a5⟩ := (hL.below hBr).mv6 hlt
      have l1 := Nat.lt_of_lt_of_le hlb hBr.size
      have HMK := Lib.hid (HOK.out.1.1.2.1 l[k] (List.getElem_mem hlt))
      have HMEM := Lib.hid (List.getElem_mem hlt)
      have x0 : (0 : Int) ≤ (k : Int) := by omega
      have x1 : (k : Int) < (l.length : Int) := by omega
      have q0 : decide ((k : Int) < (l.length : Int)) = true := decide_eq_true x1
      generalize l[k] = m at *
      obtain ⟨X, HX, u0, hbX, -⟩ := boxes1 wr (mvc m) 66
      have BX := after_ hBr hbX
      have hownX := hown.kept (below_grown hbX) (by simp)
      have hsitX := hsit.kept (below_grown hbX) (by simp)
      have hbmX : bm < wr.heap.size := hown.lt
      obtain ⟨u1, u2, u3, u4, u5, u6⟩ := u0.c6'
      obtain ⟨mx, hmx⟩ : ∃ mx, (if v < m.wk then m.wk else v) = mx := ⟨_, rfl⟩
      have hX := HX.out
      go_wp2_with fail
      clear hX hmx
      refine (places_ok m X).mono ?_
      rintro e w4 ⟨rfl, hb4⟩
      have B4 := after_ BX hb4
      have hown4 := hownX.kept (below_grown hb4) (by simp)
      have hsit4 := hsitX.kept (below_grown hb4) (by simp)
      have v0 := u0.below hb4
      have hmb : bm ≠ wr.heap.size := by omega
      clear hown hownX hsit hsitX u0 u1 u2 u3 u4 u5 u6 a0 a1 a2 a3 a4 a5 HX hbX BX hb4 hBr l1 hlb
      generalize wr.heap.size = mb at *
      go_wp2_with fail
      go_loopw [10, 15, 39] (fun s10 _ i wr => ∃ (c nn2 : Nat) (D2 : DataW Unit) (v2 : Int), (c = 0 ∧ i = .int .i64 0 ∨ c = 1 ∧ i = .int .i64 1 ∨ c = 2 ∧ i = .int .i64 2) ∧ s10 = .int .i64 v2 ∧ nn2 ≤ nn + c ∧ Below w.heap.size w wr ∧ wr.ownsMap Tryz.prog 145 (plainElem (H := Unit) Tryz.prog 3) bm nn2 D2 ∧ wr.ownsMap Tryz.prog 145 (plainElem (H := Unit) Tryz.prog 3) bs ns Ds ∧ Box wr mb (mvc m) 66 ∧ Hid (IsMap D2)) (fun _ _ i _ => 2 - (intOf i).toNat)
      case atStart => exact ⟨0, nn, D, _, .inl ⟨rfl, rfl⟩, rfl, Nat.le_refl _, B4, hown4, hsit4, v0, HM⟩
      case round =>
        clear hown4 hsit4 v0 B4
        obtain ⟨c, nn2, D2, v2, hcc, rfl, hn2, hBr, hown, hsit, hmv, HM2⟩ := hrel
        rcases hcc with ⟨rfl, rfl⟩ | ⟨rfl, rfl⟩ | ⟨rfl, rfl⟩
        · have q1 : decide ((0 : Int) < 2) = true := by decide
          have HPB := Lib.hid (M.plc_le HMK.out false)
          have HKEY : Hid (keyOf Tryz.prog 145 (plv (false, m.tw)) = some (plit (false, m.tw))) := Lib.hid (place_key HPB.out)
          obtain ⟨Y, HY, y0, hbY, -⟩ := boxes1 wr #[.bool false, .int .i64 m.tw] 145
          have BY := after_ hBr hbY
          have hownY := hown.kept (below_grown hbY) (by simp)
          have hsitY := hsit.kept (below_grown hbY) (by simp)
          have hmvY := hmv.below hbY
          obtain ⟨y1, y2⟩ := y0.c2
          have hbmY : bm < wr.heap.size := hown.lt
          have hmbY : mb < wr.heap.size := hmv.lt
          have hY := HY.out
          have ix := idx_pl0 m
          clear hown hsit hmv
          go_wp2_with fail
          clear hY
          refine bound_reg12 (p := (false, m.tw)) (m := m) hownY HM2.out (by unfold maxLen; omega) HPB.out y0 hmvY (by omega) hmb (by kernel_rfl) ?_
          intro z42 z43 z44 z45 z46 z47 z48 z49 w5 c5 hat5 hown5 hg5
          dsimp only
          have B5 : Below w.heap.size w w5 := BY.grown hg5 BY.size (fun j e => by cases e; exact hwb)
          have hsit5 := hsitY.kept hg5 (fun e => by have := Option.some.inj e; omega)
          have hmv5 := hmvY.grown hg5 (fun e => by have := Option.some.inj e; omega)
          have y5 := y0.grown hg5 (fun e => by have := Option.some.inj e; omega)
          have HM5 : Hid (IsMap (D2.put (plit (false, m.tw)) (.lit (.int .i64 (IntKind.i64.wrap (c5 + m.wk)))))) := Lib.hid (HM2.out.put _ _)
          obtain ⟨cs, hls, has, -⟩ := hsit5.lookup_int placeKeyed Tryz.underlying140 Tryz.underlying3 (zeroIntG w5) HKEY.out
          obtain ⟨cm, hlm, -, -⟩ := hown5.lookup_int placeKeyed Tryz.underlying140 Tryz.underlying3 (zeroIntG w5) HKEY.out
          have hcs : 1 ≤ cs ∧ cs ≤ 64 := by
            have h1 := (HPD.out.hit (false, m.tw) (List.mem_flatMap.2 ⟨m, HMEM.out, by simp [M.plcs, M.plc]⟩)).2 (.lit (.int .i64 0))
            rw [h1] at has
            obtain rfl : M.pcap T C (false, m.tw) = cs := by injection has with h2; injection h2
            exact M.pcap_pos HOK.out.1 HOK.out.2 HMEM.out false
          have hcz : cs ≠ 0 := by omega
          have hcz2 : (cs == 0) = false := by simpa using hcz
          have lkS : ∀ u : Kept w5.heap.size w5, (Instr.lookup 140 (.map (some bs)) (plv (false, m.tw)) false).run Tryz.prog u.val = .ok (.int .i64 cs) u.val := fun u => by
            obtain ⟨cu, hlu, hau, -⟩ := (hsit5.kept (below_grown u.h) (by simp)).lookup_int placeKeyed Tryz.underlying140 Tryz.underlying3 (zeroIntG u.val) HKEY.out
            rw [has] at hau
            obtain rfl : cs = cu := by injection hau with h2; injection h2
            exact hlu
          have lkM : ∀ u : Kept w5.heap.size w5, (Instr.lookup 140 (.map (some bm)) (plv (false, m.tw)) false).run Tryz.prog u.val = .ok (.int .i64 cm) u.val := fun u => by
            obtain ⟨cu, hlu, hau, -⟩ := (hown5.kept (below_grown u.h) (by simp)).lookup_int placeKeyed Tryz.underlying140 Tryz.underlying3 (zeroIntG u.val) HKEY.out
            obtain ⟨cu', hlu', hau', -⟩ := hown5.lookup_int placeKeyed Tryz.underlying140 Tryz.underlying3 (zeroIntG w5) HKEY.out
            rw [hlm] at hlu'
            obtain rfl : cm = cu' := by simpa using hlu'
            rw [hau'] at hau
            obtain rfl : cm = cu := by injection hau with h2; injection h2
            exact hlu
          obtain ⟨t1, t2⟩ := y5.c2
          have ht5 := y5.lt
          clear has hls hlm hcs hat5
          go_wp2_with fail
          refine wp_region_kept w5.heap.size w5 (by kernel_rfl) (by kernel_rfl) (Below.refl _ _) ?_
          repeat (go_big_quiet_step (fail))
          refine wpQuiet_nil ?_
          rintro w6 ⟨⟨w6x, hb6⟩, hw6⟩
          dsimp only at hw6
          subst hw6
          clear lkS lkM
          have B6 := after_ B5 hb6
          have hown6 := hown5.kept (below_grown hb6) (by simp)
          have hsit6 := hsit5.kept (below_grown hb6) (by simp)
          have hmv6 := hmv5.below hb6
          go_wp2_with fail
          go_roundw
          case rel => exact ⟨1, nn2 + 1, _, _, .inr (.inl ⟨rfl, by go_num⟩), rfl, by omega, B6, hown6, hsit6, hmv6, HM5⟩
          case measure => simp [intOf]
        · have q1 : decide ((1 : Int) < 2) = true := by decide
          have HPB := Lib.hid (M.plc_le HMK.out true)
          have HKEY : Hid (keyOf Tryz.prog 145 (plv (true, m.cr)) = some (plit (true, m.cr))) := Lib.hid (place_key HPB.out)
          obtain ⟨Y, HY, y0, hbY, -⟩ := boxes1 wr #[.bool true, .int .i64 m.cr] 145
          have BY := after_ hBr hbY
          have hownY := hown.kept (below_grown hbY) (by simp)
          have hsitY := hsit.kept (below_grown hbY) (by simp)
          have hmvY := hmv.below hbY
          obtain ⟨y1, y2⟩ := y0.c2
          have hbmY : bm < wr.heap.size := hown.lt
          have hmbY : mb < wr.heap.size := hmv.lt
          have hY := HY.out
          have ix := idx_pl1 m
          clear hown hsit hmv
          go_wp2_with fail
          clear hY
          refine bound_reg12 (p := (true, m.cr)) (m := m) hownY HM2.out (by unfold maxLen; omega) HPB.out y0 hmvY (by omega) hmb (by kernel_rfl) ?_
          intro z42 z43 z44 z45 z46 z47 z48 z49 w5 c5 hat5 hown5 hg5
          dsimp only
          have B5 : Below w.heap.size w w5 := BY.grown hg5 BY.size (fun j e => by cases e; exact hwb)
          have hsit5 := hsitY.kept hg5 (fun e => by have := Option.some.inj e; omega)
          have hmv5 := hmvY.grown hg5 (fun e => by have := Option.some.inj e; omega)
          have y5 := y0.grown hg5 (fun e => by have := Option.some.inj e; omega)
          have HM5 : Hid (IsMap (D2.put (plit (true, m.cr)) (.lit (.int .i64 (IntKind.i64.wrap (c5 + m.wk)))))) := Lib.hid (HM2.out.put _ _)
          obtain ⟨cs, hls, has, -⟩ := hsit5.lookup_int placeKeyed Tryz.underlying140 Tryz.underlying3 (zeroIntG w5) HKEY.out
          obtain ⟨cm, hlm, -, -⟩ := hown5.lookup_int placeKeyed Tryz.underlying140 Tryz.underlying3 (zeroIntG w5) HKEY.out
          have hcs : 1 ≤ cs ∧ cs ≤ 64 := by
            have h1 := (HPD.out.hit (true, m.cr) (List.mem_flatMap.2 ⟨m, HMEM.out, by simp [M.plcs, M.plc]⟩)).2 (.lit (.int .i64 0))
            rw [h1] at has
            obtain rfl : M.pcap T C (true, m.cr) = cs := by injection has with h2; injection h2
            exact M.pcap_pos HOK.out.1 HOK.out.2 HMEM.out true
          have hcz : cs ≠ 0 := by omega
          have hcz2 : (cs == 0) = false := by simpa using hcz
          have lkS : ∀ u : Kept w5.heap.size w5, (Instr.lookup 140 (.map (some bs)) (plv (true, m.cr)) false).run Tryz.prog u.val = .ok (.int .i64 cs) u.val := fun u => by
            obtain ⟨cu, hlu, hau, -⟩ := (hsit5.kept (below_grown u.h) (by simp)).lookup_int placeKeyed Tryz.underlying140 Tryz.underlying3 (zeroIntG u.val) HKEY.out
            rw [has] at hau
            obtain rfl : cs = cu := by injection hau with h2; injection h2
            exact hlu
          have lkM : ∀ u : Kept w5.heap.size w5, (Instr.lookup 140 (.map (some bm)) (plv (true, m.cr)) false).run Tryz.prog u.val = .ok (.int .i64 cm) u.val := fun u => by
            obtain ⟨cu, hlu, hau, -⟩ := (hown5.kept (below_grown u.h) (by simp)).lookup_int placeKeyed Tryz.underlying140 Tryz.underlying3 (zeroIntG u.val) HKEY.out
            obtain ⟨cu', hlu', hau', -⟩ := hown5.lookup_int placeKeyed Tryz.underlying140 Tryz.underlying3 (zeroIntG w5) HKEY.out
            rw [hlm] at hlu'
            obtain rfl : cm = cu' := by simpa using hlu'
            rw [hau'] at hau
            obtain rfl : cm = cu := by injection hau with h2; injection h2
            exact hlu
          obtain ⟨t1, t2⟩ := y5.c2
          have ht5 := y5.lt
          clear has hls hlm hcs hat5
          go_wp2_with fail
          refine wp_region_kept w5.heap.size w5 (by kernel_rfl) (by kernel_rfl) (Below.refl _ _) ?_
          repeat (go_big_quiet_step (fail))
          refine wpQuiet_nil ?_
          rintro w6 ⟨⟨w6x, hb6⟩, hw6⟩
          dsimp only at hw6
          subst hw6
          clear lkS lkM
          have B6 := after_ B5 hb6
          have hown6 := hown5.kept (below_grown hb6) (by simp)
          have hsit6 := hsit5.kept (below_grown hb6) (by simp)
          have hmv6 := hmv5.below hb6
          go_wp2_with fail
          go_roundw
          case rel => exact ⟨2, nn2 + 1, _, _, .inr (.inr ⟨rfl, by go_num⟩), rfl, by omega, B6, hown6, hsit6, hmv6, HM5⟩
          case measure => simp [intOf]
        · have q1 : decide ((2 : Int) < 2) = false := by decide
          go_wp2_with fail
          go_roundw
          case rel => exact ⟨k + 1, nn2, D2, _, hlt, by omega, by go_num, rfl, hBr, hown, hsit, HM2⟩
          case measure => simp [intOf]; omega
    · obtain rfl : k = l.length := by omega
      have q0 : decide ((l.length : Int) < (l.length : Int)) = false := decide_eq_false (by omega)
      go_wp2_with fail
      go_ret2
      exact ⟨⟨0, v, HER.out, rfl⟩, hBr⟩
end Go.Proofs.YtpkepgcmifdpfaaGreatDoor
end

section
namespace Go.Proofs.YtpkepgcmifdpfaaGreatDoor
open Go Go.RowKit
set_option maxRecDepth 100000
def rowsU (R : List Nat) (vs : List Nat) : Nat := vs.foldl (fun a w => a ||| Dg.row R w) 0
def bitsU (vs : List Nat) : Nat := vs.foldl (fun a w => a ||| 2 ^ w) 0
def nextF (R : List Nat) (vs : List Nat) : Nat := Bs.dif (rowsU R vs) (bitsU vs)
theorem rowsU_snoc (R vs : List Nat) (v : Nat) : rowsU R (vs ++ [v]) = rowsU R vs ||| Dg.row R v := by unfold rowsU; rw [List.foldl_append]; rfl
theorem bitsU_snoc (vs : List Nat) (v : Nat) : bitsU (vs ++ [v]) = bitsU vs ||| 2 ^ v := by unfold bitsU; rw [List.foldl_append]; rfl
theorem bitsU_bit (j : Nat) : ∀ (vs : List Nat) (a : Nat), (vs.foldl (fun a w => a ||| 2 ^ w) a).testBit j = true ↔ a.testBit j = true ∨ j ∈ vs
  | [], a => by simp
  | x :: l, a => by
    rw [List.foldl_cons, bitsU_bit j l, Nat.testBit_or, Bool.or_eq_true, Dg.one_bit, List.mem_cons]
    constructor
    · rintro ((h | h) | h)
      · exact .inl h
      · exact .inr (.inl h.symm)
      · exact .inr (.inr h)
    · rintro (h | h | h)
      · exact .inl (.inl h)
      · exact .inl (.inr h.symm)
      · exact .inr h
theorem bitsU_els {s : Nat} (h : Bs.Fit s) : bitsU (Bs.els s 0) = s := by
  apply Bs.ext_bit
  intro j
  unfold bitsU
  rw [Bool.eq_iff_iff, bitsU_bit, Bs.mem_els h, Nat.zero_testBit]
  simp
theorem nextF_part {R : List Nat} (h : Dg.Ok R) (v : Nat) : nextF R (Bs.els (Dg.scc R v) 0) = Dg.wt R v := by
  unfold nextF
  rw [bitsU_els (Dg.scc_fit h v)]
  rfl
theorem nextF_one {R : List Nat} {v : Nat} (h : (Dg.row R v).testBit v = false) : nextF R [v] = Dg.row R v := by
  apply Bs.ext_bit
  intro j
  unfold nextF rowsU bitsU
  simp only [List.foldl_cons, List.foldl_nil, Nat.zero_or]
  rw [Bs.dif_bit, Nat.testBit_two_pow]
  by_cases e : v = j
  · subst e; simp [h]
  · simp [e]
def nints (vs : List Nat) : List Int := vs.map fun (v : Nat) => (v : Int)
theorem nints_len (vs : List Nat) : (nints vs).length = vs.length := by simp [nints]
set_option maxHeartbeats 16000000 in
theorem dpNext_ok (bg : Nat) (A : Option Addr) (c : Nat) (R : List Nat) (arcs : Int) (VA : Option Addr) (vc : Nat) (vs : List Nat) (w : World) (h : DG w bg A c R arcs) (hR : Dg.Ok R) (hv : ∀ v ∈ vs, v < R.length) (hV : Sl 1 icell w w.heap.size VA (nints vs)) (hl : vs.length ≤ 1000000) :
    Calls Tryz.prog 97 #[gp bg, .slice VA vs.length vc] w fun e w' => e = .returned (bsv (nextF R vs)) ∧ Below w.heap.size w w' := by
  have hl512 := hR.len
  obtain ⟨V, HW, x4, x5, x6, hB, hsV⟩ := boxes3 w #[.int .u64 0, .int .u64 0, .int .u64 0, .int .u64 0, .int .u64 0, .int .u64 0, .int .u64 0, .int .u64 0] 169 #[.int .u64 0, .int .u64 0, .int .u64 0, .int .u64 0, .int .u64 0, .int .u64 0, .int .u64 0, .int .u64 0] 169 #[.int .u64 0, .int .u64 0, .int .u64 0, .int .u64 0, .int .u64 0, .int .u64 0, .int .u64 0, .int .u64 0] 169
  have hV' := HW.out
  clear hsV
  go_enter Tryz.func97, Tryz.ntmps97
  go_wp2_with fail
  clear hV'
  rw [← zero8] at x5 x6
  go_loopw [8, 9, 10, 13] (fun _ _ _ i wr => ∃ k : Nat, k ≤ vs.length ∧ i = .int .i64 k ∧ Below w.heap.size w wr ∧ Box wr w.heap.size #[.int .u64 0, .int .u64 0, .int .u64 0, .int .u64 0, .int .u64 0, .int .u64 0, .int .u64 0, .int .u64 0] 169 ∧ Box wr (w.heap.size + 1) (bsc (rowsU R (vs.take k))) 169 ∧ Box wr (w.heap.size + 2) (bsc (bitsU (vs.take k))) 169) (fun _ _ _ i _ => vs.length - (intOf i).toNat)
  case atStart => exact ⟨0, Nat.zero_le _, rfl, hB, x4, x5, x6⟩
  case round =>
    clear x4 x5 x6
    obtain ⟨k, hk, rfl, hBr, x4, x5, x6⟩ := hrel
    by_cases hlt : k < vs.length
    · obtain ⟨la, hla, hlb, a0⟩ := ((hV.below hBr).more hBr.size).int_at (k := k) (by rw [nints_len]; exact hlt)
      rw [show (nints vs)[k]'(by rw [nints_len]; exact hlt) = ((vs[k] : Nat) : Int) by unfold nints; rw [List.getElem_map]] at a0
      have hvk := hv vs[k] (List.getElem_mem hlt)
      have HT := Lib.hid (List.take_succ_eq_append_getElem hlt)
      have HR1 : Hid (rowsU R (vs.take (k + 1)) = rowsU R (vs.take k) ||| Dg.row R vs[k]) := Lib.hid (by rw [HT.out, rowsU_snoc])
      have HB1 : Hid (bitsU (vs.take (k + 1)) = bitsU (vs.take k) ||| 2 ^ vs[k]) := Lib.hid (by rw [HT.out, bitsU_snoc])
      have x0 : (0 : Int) ≤ (k : Int) := by omega
      have x1 : (k : Int) < (vs.length : Int) := by omega
      have q0 : decide ((k : Int) < (vs.length : Int)) = true := decide_eq_true x1
      clear HT
      generalize vs[k] = v at *
      generalize rowsU R (vs.take k) = N at *
      generalize bitsU (vs.take k) = M' at *
      subst hla
      have kN := dgNext_ok bg A c R arcs v wr (h.next hBr) hvk
      go_wp2_with fail
      clear a0
      refine kN.mono ?_
      rintro e w5 ⟨rfl, hb5⟩
      have B5 := after_ hBr hb5
      obtain ⟨X, HX, x9, hbX, hsX⟩ := boxes1 w5 (bsc (Dg.row R v)) 169
      have BX := after_ B5 hbX
      have y4 := (x4.below hb5).below hbX
      have y5 := (x5.below hb5).below hbX
      have y6 := (x6.below hb5).below hbX
      obtain ⟨d0, d1, d2, d3, d4, d5, d6, d7⟩ := y5.w
      obtain ⟨e0, e1, e2, e3, e4, e5, e6, e7⟩ := x9.w
      have hX := HX.out
      clear hsX kN
      go_wp2_with fail
      clear hX d0 d1 d2 d3 d4 d5 d6 d7 e0 e1 e2 e3 e4 e5 e6 e7
      refine (bsUnion_ok N (Dg.row R v) X).mono ?_
      rintro e w6 ⟨rfl, hb6⟩
      have B6 := after_ BX hb6
      have z4 := y4.below hb6
      have z5 := y5.below hb6
      have z6 := y6.below hb6
      rw [← HR1.out]
      obtain ⟨Y, HY, s5, hBY, hsY, hoY⟩ := store8 w6 (w.heap.size + 1) (rowsU R (vs.take (k + 1))) _ _ z5 rfl
      obtain ⟨g0, g1, g2, g3, g4, g5, g6, g7⟩ := z5.f8
      obtain ⟨d0, d1, d2, d3, d4, d5, d6, d7⟩ := z5.w
      have s6 := hoY _ _ _ (by omega) z6
      have s4 := hoY _ _ _ (by omega) z4
      have BY := hBY w.heap.size w (Nat.le_succ _) B6
      obtain ⟨e0, e1, e2, e3, e4, e5, e6, e7⟩ := s6.w
      have hY := HY.out
      go_wp2_with fail
      clear hY d0 d1 d2 d3 d4 d5 d6 d7 e0 e1 e2 e3 e4 e5 e6 e7 g0 g1 g2 g3 g4 g5 g6 g7
      refine (bsAdd_ok M' v Y (by omega)).mono ?_
      rintro e w7 ⟨rfl, hb7⟩
      have B7 := after_ BY hb7
      have t4 := s4.below hb7
      have t5 := s5.below hb7
      have t6 := s6.below hb7
      rw [← HB1.out]
      obtain ⟨Z, HZ, r6, hBZ, hsZ, hoZ⟩ := store8 w7 (w.heap.size + 2) (bitsU (vs.take (k + 1))) _ _ t6 rfl
      obtain ⟨g0, g1, g2, g3, g4, g5, g6, g7⟩ := t6.f8
      obtain ⟨d0, d1, d2, d3, d4, d5, d6, d7⟩ := t6.w
      have hZ := HZ.out
      go_wp2_with fail
      have BZ := hBZ w.heap.size w (by omega) B7
      go_roundw
      case rel => exact ⟨k + 1, hlt, by go_num, BZ, hoZ _ _ _ (by omega) t4, hoZ _ _ _ (by omega) t5, r6⟩
      case measure => simp [intOf]; omega
    · obtain rfl : k = vs.length := by omega
      have q0 : decide ((vs.length : Int) < (vs.length : Int)) = false := decide_eq_false (by omega)
      rw [List.take_length] at x5 x6
      obtain ⟨d0, d1, d2, d3, d4, d5, d6, d7⟩ := x5.w
      obtain ⟨e0, e1, e2, e3, e4, e5, e6, e7⟩ := x6.w
      go_wp2_with fail
      clear d0 d1 d2 d3 d4 d5 d6 d7 e0 e1 e2 e3 e4 e5 e6 e7
      refine (bsMinus_ok (rowsU R vs) (bitsU vs) wr).mono ?_
      rintro e w6 ⟨rfl, hb6⟩
      have z4 := x4.below hb6
      obtain ⟨Y, HY, z, hBY, hsY, hoY⟩ := store8 w6 w.heap.size (Bs.dif (rowsU R vs) (bitsU vs)) _ _ z4 rfl
      obtain ⟨g0, g1, g2, g3, g4, g5, g6, g7⟩ := z4.f8
      obtain ⟨d0, d1, d2, d3, d4, d5, d6, d7⟩ := z4.c8
      obtain ⟨z0, z1, z2, z3, z4', z5, z6, z7⟩ := z.w
      have hY := HY.out
      go_wp2_with fail
      refine bodyPost_ret (v := bsv (Bs.dif (rowsU R vs) (bitsU vs))) ?_ rfl ⟨rfl, hBY _ _ (Nat.le_refl _) (after_ hBr hb6)⟩
      simp [results, Tryz.results97, go_sem, z0, z1, z2, z3, z4', z5, z6, z7]
end Go.Proofs.YtpkepgcmifdpfaaGreatDoor
end

section
namespace Go.Proofs.YtpkepgcmifdpfaaGreatDoor
open Go Go.RowKit Go.Maps
set_option maxRecDepth 100000
theorem PosD.get2 {D : DataW Unit} {l : List Mv} (h : PosD D l l.length) (st : Int) : ∃ (c : Nat) (r : Bool), Maps.has D (.int .i64 st) = r ∧ D.atKey (.int .i64 st) (.lit (.int .i64 0)) = .lit (.int .i64 c) ∧ (r = true → M.idx l st = some c ∧ c < l.length) ∧ (r = false → M.idx l st = none) ∧ c ≤ l.length := by
  rcases h.look st with ⟨i, hi, hh, ha⟩ | ⟨hn, hh⟩
  · exact ⟨i, true, hh, ha _, fun _ => ⟨hi, (M.idx_some hi).1⟩, (fun h => by cases h), Nat.le_of_lt (M.idx_some hi).1⟩
  · exact ⟨0, false, hh, atKey_of_not_has hh _, (fun h => by cases h), fun _ => hn, Nat.zero_le _⟩
def cntS (S : List (Option Nat)) : Nat := (S.filter Option.isSome).length
theorem cntS_start (n : Nat) : cntS (List.replicate n none) = 0 := by unfold cntS; rw [List.length_eq_zero_iff, List.filter_eq_nil_iff]; intro x hx; rw [(List.mem_replicate.1 hx).2]; simp
theorem cntS_put : ∀ (S : List (Option Nat)) (v i : Nat), v < S.length → S.getD v none = none → cntS (S.set v (some i)) = cntS S + 1
  | [], _, _, h, _ => absurd h (by simp)
  | x :: S, 0, i, _, h => by
    have hx : x = none := by simpa using h
    subst hx
    simp [cntS]
  | x :: S, v + 1, i, h, h2 => by
    have h3 : v < S.length := by simpa using h
    have := cntS_put S v i h3 (by simpa using h2)
    unfold cntS at this ⊢
    rw [List.set_cons_succ, List.filter_cons, List.filter_cons]
    split <;> simp [this]
structure SetD (D : DataW Unit) (S : List (Option Nat)) : Prop where
  tidy : Tidy D
  sz : Maps.size D = cntS S
  hit : ∀ (v i : Nat), S.getD v none = some i → Maps.has D (.int .i64 v) = true ∧ ∀ z, D.atKey (.int .i64 v) z = .lit (.int .i64 i)
  miss : ∀ (v : Nat), S.getD v none = none → Maps.has D (.int .i64 v) = false
theorem SetD.start (n : Nat) : SetD (.map []) (List.replicate n none) := by
  refine ⟨tidy_empty, by rw [cntS_start]; rfl, fun v i h => ?_, fun v _ => rfl⟩
  rw [List.getD_eq_getElem?_getD, List.getElem?_replicate] at h
  split at h <;> simp at h
theorem SetD.put {D : DataW Unit} {S : List (Option Nat)} (h : SetD D S) {v : Nat} (hv : v < S.length) (i : Nat) (hno : S.getD v none = none) : SetD (D.put (.int .i64 v) (.lit (.int .i64 i))) (S.set v (some i)) := by
  have hne : ∀ u : Nat, u ≠ v → (Lit.int .i64 (u : Int)) ≠ .int .i64 (v : Int) := fun u hu e => by
    injection e with _ e
    omega
  have hg : ∀ u, (S.set v (some i)).getD u none = if u = v then some i else S.getD u none := fun u => by
    rw [List.getD_eq_getElem?_getD, List.getD_eq_getElem?_getD, List.getElem?_set]
    by_cases e : v = u
    · subst e; simp [hv]
    · rw [if_neg e, if_neg (fun h => e h.symm)]
  refine ⟨h.tidy.put (by simp [WideAt.IsKeyLit]) _, by rw [size_put h.tidy, h.miss v hno, cntS_put S v i hv hno, h.sz]; rfl, fun u j hu => ?_, fun u hu => ?_⟩
  · rw [hg] at hu
    by_cases e : u = v
    · subst e
      rw [if_pos rfl] at hu
      obtain rfl := Option.some.inj hu
      exact ⟨has_put_same h.tidy.isMap (by simp [WideAt.IsKeyLit]) _, fun z => atKey_put_same h.tidy.isMap (by simp [WideAt.IsKeyLit]) _ _⟩
    · rw [if_neg e] at hu
      obtain ⟨h1, h2⟩ := h.hit u j hu
      exact ⟨(has_put_other (hne u e) _).trans h1, fun z => (atKey_put_other (hne u e) _ _).trans (h2 z)⟩
  · rw [hg] at hu
    by_cases e : u = v
    · rw [if_pos e] at hu; cases hu
    · rw [if_neg e] at hu
      exact (has_put_other (hne u e) _).trans (h.miss u hu)
theorem SetD.get {D : DataW Unit} {S : List (Option Nat)} (h : SetD D S) (v : Nat) : Maps.has D (.int .i64 v) = (S.getD v none).isSome ∧ D.atKey (.int .i64 v) (.lit (.int .i64 0)) = .lit (.int .i64 ((S.getD v none).getD 0 : Nat)) := by
  cases e : S.getD v none with
  | none => exact ⟨h.miss v e, atKey_of_not_has (h.miss v e) _⟩
  | some i => exact ⟨(h.hit v i e).1, (h.hit v i e).2 _⟩
theorem cntS_le (S : List (Option Nat)) : cntS S ≤ S.length := List.length_filter_le _ _
theorem cntS_any (S : List (Option Nat)) : cntS S < S.length ↔ S.any (fun o => o.isNone) = true := by
  unfold cntS
  rw [List.length_filter_lt_length_iff_exists, List.any_eq_true]
  constructor
  · rintro ⟨x, hx, h⟩; exact ⟨x, hx, by cases x <;> simp_all⟩
  · rintro ⟨x, hx, h⟩; exact ⟨x, hx, by cases x <;> simp_all⟩
namespace M
theorem place_none {l : List Mv} {S : List (Option Nat)} {i : Nat} {st : Int} {r : List (Nat × Int)} (h : idx l st = none) : place l S ((i, st) :: r) = none := by
  conv => lhs; unfold place
  rw [h]
theorem place_twice {l : List Mv} {S : List (Option Nat)} {i v : Nat} {st : Int} {r : List (Nat × Int)} (h : idx l st = some v) (h2 : (S.getD v none).isSome = true) : place l S ((i, st) :: r) = none := by
  conv => lhs; unfold place
  rw [h]
  simp only
  rw [if_pos h2]
theorem place_once {l : List Mv} {S : List (Option Nat)} {i v : Nat} {st : Int} {r : List (Nat × Int)} (h : idx l st = some v) (h2 : (S.getD v none).isSome = false) : place l S ((i, st) :: r) = place l (S.set v (some i)) r := by
  conv => lhs; unfold place
  rw [h]
  simp only
  rw [if_neg (by rw [h2]; decide)]
theorem flatO_drop {order : List (List Int)} {i : Nat} (h : i < order.length) : flatO i (order.drop i) = order[i].map (fun st => (i, st)) ++ flatO (i + 1) (order.drop (i + 1)) := by
  rw [List.drop_eq_getElem_cons h]
  rfl
theorem legal_two {ps : List P5} {l : List Mv} {order : List (List Int)} (h : setOf l order = none) : legal ps l order = 2 := by unfold legal; rw [h]
theorem legal_nine {ps : List P5} {l : List Mv} {order : List (List Int)} {S : List (Option Nat)} (h : setOf l order = some S) (h2 : S.any (fun o => o.isNone) = true) : legal ps l order = 9 := by
  unfold legal
  rw [h]
  simp only
  rw [if_pos h2]
theorem legal_late {ps : List P5} {l : List Mv} {order : List (List Int)} {S : List (Option Nat)} (h : setOf l order = some S) (h2 : S.any (fun o => o.isNone) = false) {v w : Nat} (hv : v < l.length) (hw : w < l.length) (hb : (Dg.row (rows ps l) v).testBit w = true) (hs : (S.getD v none).getD 0 < (S.getD w none).getD 0) : legal ps l order = 10 := by
  have h3 : late ps l S = true := by
    unfold late
    rw [List.any_eq_true]
    refine ⟨v, List.mem_range.2 hv, ?_⟩
    rw [List.any_eq_true]
    refine ⟨w, List.mem_range.2 hw, ?_⟩
    rw [hb, decide_eq_true hs]
    rfl
  unfold legal
  rw [h]
  simp only
  rw [if_neg (by rw [h2]; decide), if_pos h3]
theorem legal_fine {ps : List P5} {l : List Mv} {order : List (List Int)} {S : List (Option Nat)} (h : setOf l order = some S) (h2 : S.any (fun o => o.isNone) = false) (hn : ∀ v w, v < l.length → w < l.length → (Dg.row (rows ps l) v).testBit w = true → ¬ (S.getD v none).getD 0 < (S.getD w none).getD 0) : legal ps l order = 0 := by
  have h3 : late ps l S = false := by
    unfold late
    rw [List.any_eq_false]
    intro v hv
    rw [List.any_eq_true]
    rintro ⟨w, hw, h4⟩
    rw [Bool.and_eq_true, decide_eq_true_eq] at h4
    exact hn v w (List.mem_range.1 hv) (List.mem_range.1 hw) h4.1 h4.2
  unfold legal
  rw [h]
  simp only
  rw [if_neg (by rw [h2]; decide), if_neg (by rw [h3]; decide)]
theorem row_self {ps : List P5} {l : List Mv} {v : Nat} (hv : v < l.length) : (Dg.row (rows ps l) v).testBit v = false := by
  rw [rows_at hv hv]
  unfold waits
  simp
end M
end Go.Proofs.YtpkepgcmifdpfaaGreatDoor
end

section
namespace Go.Proofs.YtpkepgcmifdpfaaGreatDoor
open Go Go.RowKit Go.Maps
set_option maxRecDepth 100000
structure LS (w3 W : World) (bm b10 cnt : Nat) (D : DataW Unit) : Prop where
  bel : Below w3.heap.size w3 W
  own : W.ownsMap Tryz.prog 3 (plainElem (H := Unit) Tryz.prog 3) bm cnt D
  x10 : Box W b10 #[.map (some bm)] 129
section
variable {w3 W W' : World} {bm b10 cnt : Nat} {D : DataW Unit}
theorem LS.next (h : LS w3 W bm b10 cnt D) (hb : Below W.heap.size W W') : LS w3 W' bm b10 cnt D := ⟨after_ h.bel hb, h.own.kept (below_grown hb) (by simp), h.x10.below hb⟩
theorem LS.own' {row : Option Nat} {B : Nat} (h : LS w3 W bm b10 cnt D) (hB : w3.heap.size ≤ B) (hm : bm < B) (hg : W.grownBy W' row) (hr : ∀ r, row = some r → B ≤ r ∧ ∃ o : Obj, W.heap[r]? = some o ∧ o.isCells = false) : LS w3 W' bm b10 cnt D :=
  ⟨below_own h.bel hB h.bel.size hg hr, h.own.kept hg (fun e => by have := (hr _ e.symm).1; omega), h.x10.own hg hr⟩
end
set_option maxHeartbeats 32000000 in
theorem legal_ok (PA : Option Addr) (pc np : Nat) (ps : List P5) (LA : Option Addr) (lc : Nat) (l : List Mv) (OA : Option Addr) (oc : Nat) (os : List SLc) (w : World) (ht : Tab64 w) (hnp : np = ps.length) (hP : Sl 5 p5cell w w.heap.size PA ps) (hL : Sl 6 mvcell w w.heap.size LA l) (hl : l.length ≤ 9223372036854775806) (hw : ∀ p ∈ ps, M.W64 p.a ∧ M.W64 p.b) (hO : LL w OA os) (hol : os.length ≤ 9223372036854775806) (hoi : ∀ s ∈ os, s.xs.length ≤ 9223372036854775806 ∧ ∀ x ∈ s.xs, M.W64 x) :
    Calls Tryz.prog 67 #[.slice PA np pc, .slice LA l.length lc, .slice OA os.length oc] w fun e w' => (∃ er, M.errIs ps l er ∧ ((er ≠ 0 ∧ e = .returned (.int .i64 er)) ∨ (er = 0 ∧ e = .returned (.int .i64 (M.legal ps l (os.map (·.xs))))))) ∧ Below w.heap.size w w' := by
  obtain ⟨V, HW, x6, hB, hsV⟩ := boxes1 w #[.int .i64 0] 32
  have kG := graph_ok PA pc np ps LA lc l V hnp ((hP.below hB).more hB.size) ((hL.below hB).more hB.size) hl hw
  have HOI := Lib.hid hoi
  clear hnp hw hP hoi
  have hV := HW.out
  clear hsV
  refine calls_marks Tryz.func67 rfl ?_
  simp only [Tryz.ntmps67, List.size_toArray, List.length_cons, List.length_nil, Nat.reduceAdd, Nat.reduceSub, Array.replicate_succ, Array.replicate_zero, List.push_toArray, List.append_toArray, List.nil_append, List.cons_append]
  go_wp2_with fail
  clear hV
  refine kG.mono ?_
  rintro e w2 ⟨⟨er, her, hcase⟩, hb2⟩
  clear kG
  have B2 := after_ hB hb2
  have y6 := x6.below hb2
  rcases hcase with ⟨hne, rfl⟩ | ⟨rfl, g, bg, arcs, rfl, hg, hGO⟩
  · have q0 : (er == 0) = false := by simpa using hne
    have q1 : (er != 0) = true := by simpa using hne
    have HER := Lib.hid her
    have HE0 := Lib.hid hne
    clear her hne
    have c6 := y6.c1
    have f6 := y6.frozen 0
    go_wp2_with fail
    have z := y6.set 0 (.int .i64 er)
    have hBs := B2.setCell (p := ⟨w.heap.size, 0, none⟩) (Nat.le_refl _) (.int .i64 er)
    refine leaves_marks (B := w.heap.size) (C := w.heap.size) _ _ Marks.none_ (fun W' hs => ?_)
    have z0 := (hs.box z).c1
    refine ⟨.int .i64 er, ?_, ⟨er, HER.out, .inl ⟨HE0.out, rfl⟩⟩, hBs.trans hs.below⟩
    simp [results, Tryz.results67, go_sem, z0]
  · have HER := Lib.hid her
    have hok : M.mvsOk l := by
      rcases HER.out with ⟨h1, h2, -⟩ | ⟨-, -, h⟩ | ⟨-, h⟩
      · exact h1
      · cases h
      · cases h
    have HOK := Lib.hid hok
    have hR := M.rows_ok (ps := ps) hok.1
    have hl512 := hok.1
    have HRL : Hid ((M.rows ps l).length = l.length) := Lib.hid (M.rows_len ps l)
    have hdg := hGO.dg
    have kP := positions_ok LA lc l w2 ((hL.below B2).more B2.size) hok
    clear her hok
    go_wp2_with fail
    refine kP.mono ?_
    rintro e w3 ⟨bp, D, rfl, hbp, hpos, hD, hb3⟩
    clear kP
    have B3 := after_ B2 hb3
    have z6 := y6.below hb3
    have hmm : (Instr.makeMap 129 none).run Tryz.prog w3 = .ok (.map (some w3.heap.size)) (w3.alloc (.map #[] 0)) := by
      simp [Instr.makeMap, Result.andThen]
    obtain ⟨U, HU⟩ : ∃ U, Hid (w3.alloc (.map #[] 0) = U) := ⟨_, Lib.hid rfl⟩
    have hU := HU.out
    have hbU : Below w3.heap.size w3 U := by rw [← hU]; exact (Below.refl _ _).alloc (Nat.le_refl _) _
    have hown : U.ownsMap Tryz.prog 3 (plainElem (H := Unit) Tryz.prog 3) w3.heap.size 0 (.map []) := by rw [← hU]; exact World.ownsMap_made _ _ _ _
    obtain ⟨X, HX, x10, hbX, hsX⟩ := boxes1 U #[.map (some w3.heap.size)] 129
    have hX := HX.out
    clear hsX
    go_wp2_with fail
    clear hU hX hmm
    have ls0 : LS w3 X w3.heap.size U.heap.size 0 (.map []) := ⟨hbU.trans (hbX.mono hbU.size), hown.kept (below_grown hbX) (by simp), x10⟩
    have HST0 : Hid (M.place l (List.replicate l.length none) (M.flatO 0 (os.map (·.xs))) = M.setOf l (os.map (·.xs))) := Lib.hid rfl
    have HB10 : Hid (w3.heap.size < U.heap.size) := Lib.hid (by obtain ⟨es, clock, hb, -⟩ := hown; exact (Array.getElem?_eq_some_iff.1 hb).1)
    clear hown x10 hbX hbU HX HU
    generalize U.heap.size = b10 at *
    refine wp_loop_mrg [11, 12, 14, 15, 16, 17, 18, 35, 36, 37, 38, 39, 40, 41, 42, 43, 44, 45, 46, 47, 48, 49, 50, 51, 52, 53, 54, 55, 56, 57, 58, 59, 60, 61, 62, 63, 64, 65, 66, 67] (fun mm f ds W0 => ds = [] ∧ ∃ (i : Nat) (S : List (Option Nat)) (cnt : Nat) (D : DataW Unit), f 35 = .int .i64 i ∧ mm = os.length - i ∧ i ≤ os.length ∧ LS w3 W0 w3.heap.size b10 cnt D ∧ Hid (SetD D S ∧ cnt = cntS S ∧ S.length = l.length ∧ M.place l S (M.flatO i ((os.map (·.xs)).drop i)) = M.setOf l (os.map (·.xs)))) os.length ⟨rfl, 0, List.replicate l.length none, 0, .map [], rfl, rfl, Nat.zero_le _, ls0, Lib.hid ⟨SetD.start _, (cntS_start _).symm, by simp, HST0.out⟩⟩ ?_
    clear ls0
    intro c2' T2' hc2 hT2
    rintro mm f ds W0 ⟨rfl, i, S, cnt, D2, hf35, rfl, hi, hls, HSS⟩
    replace hc2 := hc2.out
    subst hc2
    replace hT2 := hT2.out
    subst hT2
    generalize hF : mrgF _ 0 _ _ = F
    simp only [mrg_hit, mrg_miss, mrg_end, Nat.reduceBEq, Nat.reduceAdd] at hF
    rw [hf35] at hF
    subst hF
    by_cases hlt : i < os.length
    · have x0 : (0 : Int) ≤ (i : Int) := by omega
      have x1 : (i : Int) < (os.length : Int) := by omega
      have q0 : decide ((i : Int) < (os.length : Int)) = true := decide_eq_true x1
      have B0 := after_ B3 hls.bel
      obtain ⟨la, hla, hlb, a0⟩ := (hO.next B0).outer.one_at hlt
      have HIN : Hid (∀ W, Below w.heap.size w W → Sl 1 icell W W.heap.size os[i].A os[i].xs) := Lib.hid (fun W hb => (hO.next hb).inner _ (List.getElem_mem hlt))
      have HXI := Lib.hid (HOI.out os[i] (List.getElem_mem hlt))
      have HFD : Hid (M.flatO i ((os.map (·.xs)).drop i) = os[i].xs.map (fun st => (i, st)) ++ M.flatO (i + 1) ((os.map (·.xs)).drop (i + 1))) := Lib.hid (by rw [M.flatO_drop (by simpa using hlt), List.getElem_map])
      have hsl := (HOI.out os[i] (List.getElem_mem hlt)).1
      generalize os[i] = s at *
      rw [show slcell s 0 = .slice s.A s.xs.length s.c from rfl] at a0
      subst hla
      go_wp2_with fail
      clear a0
      have HS1 : Hid (SetD D2 S ∧ cnt = cntS S ∧ S.length = l.length ∧ M.place l S ((s.xs.map (fun st => (i, st))).drop 0 ++ M.flatO (i + 1) ((os.map (·.xs)).drop (i + 1))) = M.setOf l (os.map (·.xs))) := Lib.hid ⟨HSS.out.1, HSS.out.2.1, HSS.out.2.2.1, by rw [List.drop_zero, ← HFD.out]; exact HSS.out.2.2.2⟩
      refine wp_loop_mrg [14, 15, 16, 17, 18, 42, 43, 44, 45, 46, 47, 48, 49, 50, 51, 52, 53, 54, 55, 56, 57, 58, 59, 60, 61, 62, 63, 64, 65, 66] (fun mm f ds W1 => ds = [] ∧ ∃ (j : Nat) (S : List (Option Nat)) (cnt : Nat) (D : DataW Unit), f 42 = .int .i64 j ∧ mm = s.xs.length - j ∧ j ≤ s.xs.length ∧ LS w3 W1 w3.heap.size b10 cnt D ∧ Hid (SetD D S ∧ cnt = cntS S ∧ S.length = l.length ∧ M.place l S ((s.xs.map (fun st => (i, st))).drop j ++ M.flatO (i + 1) ((os.map (·.xs)).drop (i + 1))) = M.setOf l (os.map (·.xs)))) s.xs.length ⟨rfl, 0, S, cnt, D2, rfl, rfl, Nat.zero_le _, hls, HS1⟩ ?_
      clear hls HS1 HSS
      intro c3' T3' hc2 hT2
      rintro mm f ds W1 ⟨rfl, j, S1, cnt1, D1, hf42, rfl, hj, hl1, HS1⟩
      replace hc2 := hc2.out
      subst hc2
      replace hT2 := hT2.out
      subst hT2
      generalize hF : mrgF _ 0 _ _ = F
      simp only [mrg_hit, mrg_miss, mrg_end, Nat.reduceBEq, Nat.reduceAdd] at hF
      rw [hf42] at hF
      subst hF
      by_cases hjl : j < s.xs.length
      · have B1 := after_ B3 hl1.bel
        obtain ⟨lb, hlb1, hlb2, b0⟩ := (HIN.out W1 B1).int_at hjl
        have HMC : Hid ((s.xs.map (fun st => (i, st))).drop j = (i, s.xs[j]) :: (s.xs.map (fun st => (i, st))).drop (j + 1)) := Lib.hid (by rw [List.drop_eq_getElem_cons (by simpa using hjl), List.getElem_map])
        have hwf := wf64 (HXI.out.2 s.xs[j] (List.getElem_mem hjl))
        have HKY := Lib.hid (Maps.keyOf_int_mk (P := Tryz.prog) Tryz.underlying3 hwf)
        obtain ⟨v, r, hh, ha, hr1, hr0, hvl⟩ := hD.get2 s.xs[j]
        have HH := Lib.hid hh; have HA := Lib.hid ha; have HR1 := Lib.hid hr1; have HR0 := Lib.hid hr0
        have x2 : (0 : Int) ≤ (j : Int) := by omega
        have x3 : (j : Int) < (s.xs.length : Int) := by omega
        have q4 : decide ((j : Int) < (s.xs.length : Int)) = true := decide_eq_true x3
        clear hh ha hr1 hr0 hwf
        obtain ⟨g1, g2⟩ := HS1.out.1.get v
        obtain ⟨r2, hr2⟩ : ∃ r2, (S1.getD v none).isSome = r2 := ⟨_, rfl⟩
        obtain ⟨c2, hc2⟩ : ∃ c2, (S1.getD v none).getD 0 = c2 := ⟨_, rfl⟩
        rw [hr2] at g1
        rw [hc2] at g2
        have HG1 := Lib.hid g1; have HG2 := Lib.hid g2; have HRR := Lib.hid hr2
        have HKV : Hid (v ≤ 512 → keyOf Tryz.prog 3 (.int .i64 (v : Int)) = some (.int .i64 (v : Int))) := Lib.hid (fun h => Maps.keyOf_int_mk (P := Tryz.prog) Tryz.underlying3 (wf64 ⟨by omega, by omega⟩))
        clear g1 g2 hr2 hc2
        have hpos1 := hpos.kept (below_grown hl1.bel) (by simp)
        generalize s.xs[j] = st at *
        rw [hlb1]
        clear hlb1
        have hv512 : v ≤ 512 := by omega
        replace HKV := Lib.hid (HKV.out hv512)
        have c10 := hl1.x10.c1
        have o10 := hl1.own
        have q6 := z6.below hl1.bel
        have c6 := q6.c1
        have f6 := q6.frozen 0
        have hcm := cntS_le S1
        have HCM : Hid (cnt1 < maxLen) := Lib.hid (by have := HS1.out.2.1; have := HS1.out.2.2.1; unfold maxLen; omega)
        have HWI : Hid ((Lit.int .i64 (i : Int)).wf = true) := Lib.hid (wf64 ⟨by omega, by omega⟩)
        have HSP : Hid (M.place l S1 ((i, st) :: ((s.xs.map (fun st => (i, st))).drop (j + 1) ++ M.flatO (i + 1) ((os.map (·.xs)).drop (i + 1)))) = M.setOf l (os.map (·.xs))) := Lib.hid (by
          have h := HS1.out.2.2.2
          rw [HMC.out, List.cons_append] at h
          exact h)
        have HS1L := Lib.hid HS1.out.2.2.1
        have HSD := Lib.hid HS1.out.1
        have HSC := Lib.hid HS1.out.2.1
        clear hcm HS1 HMC
        cases r with
        | false =>
          go_wp2_with (first | (at_lookup; refine wpList_pos rfl _ _ 129 rfl 3 3 (Maps.int_keyed Tryz.underlying3) Tryz.underlying129 Tryz.underlying3 (zeroIntG _) bp l.length D rfl hpos1 (.int .i64 st) _ rfl HKY.out v false HH.out HA.out ?_) | (at_lookup; refine wpList_pos rfl _ _ 129 rfl 3 3 (Maps.int_keyed Tryz.underlying3) Tryz.underlying129 Tryz.underlying3 (zeroIntG _) w3.heap.size cnt1 D1 rfl o10 (.int .i64 (v : Int)) _ rfl HKV.out c2 r2 HG1.out HG2.out ?_))
          have z := q6.set 0 (.int .i64 2)
          have hBs := B1.setCell (p := ⟨w.heap.size, 0, none⟩) (Nat.le_refl _) (.int .i64 2)
          refine leaves_marks (B := w.heap.size) (C := w.heap.size) _ _ Marks.none_ (fun W' hs => ?_)
          have z0 := (hs.box z).c1
          refine ⟨.int .i64 2, by simp [results, Tryz.results67, go_sem, z0], ⟨0, HER.out, .inr ⟨rfl, ?_⟩⟩, hBs.trans hs.below⟩
          rw [M.legal_two (ps := ps) (l := l) (by rw [← HSP.out]; exact M.place_none (HR0.out (by simp)))]
        | true =>
          cases r2 with
          | true =>
            go_wp2_with (first | (at_lookup; refine wpList_pos rfl _ _ 129 rfl 3 3 (Maps.int_keyed Tryz.underlying3) Tryz.underlying129 Tryz.underlying3 (zeroIntG _) bp l.length D rfl hpos1 (.int .i64 st) _ rfl HKY.out v true HH.out HA.out ?_) | (at_lookup; refine wpList_pos rfl _ _ 129 rfl 3 3 (Maps.int_keyed Tryz.underlying3) Tryz.underlying129 Tryz.underlying3 (zeroIntG _) w3.heap.size cnt1 D1 rfl o10 (.int .i64 (v : Int)) _ rfl HKV.out c2 true HG1.out HG2.out ?_))
            have z := q6.set 0 (.int .i64 2)
            have hBs := B1.setCell (p := ⟨w.heap.size, 0, none⟩) (Nat.le_refl _) (.int .i64 2)
            refine leaves_marks (B := w.heap.size) (C := w.heap.size) _ _ Marks.none_ (fun W' hs => ?_)
            have z0 := (hs.box z).c1
            refine ⟨.int .i64 2, by simp [results, Tryz.results67, go_sem, z0], ⟨0, HER.out, .inr ⟨rfl, ?_⟩⟩, hBs.trans hs.below⟩
            rw [M.legal_two (ps := ps) (l := l) (by rw [← HSP.out]; exact M.place_twice (HR1.out (by simp)).1 HRR.out)]
          | false =>
            have hvl2 := (HR1.out (by simp)).2
            have HNO : Hid (S1.getD v none = none) := Lib.hid (by
              have h := HRR.out
              cases e : S1.getD v none with
              | none => rfl
              | some y => rw [e] at h; cases h)
            have HNX : Hid (Hid (SetD (D1.put (.int .i64 v) (.lit (.int .i64 i))) (S1.set v (some i)) ∧ cnt1 + 1 = cntS (S1.set v (some i)) ∧ (S1.set v (some i)).length = l.length ∧ M.place l (S1.set v (some i)) ((s.xs.map (fun st => (i, st))).drop (j + 1) ++ M.flatO (i + 1) ((os.map (·.xs)).drop (i + 1))) = M.setOf l (os.map (·.xs)))) := Lib.hid (Lib.hid (by
              have hv' : v < S1.length := by rw [HS1L.out]; exact hvl2
              refine ⟨HSD.out.put hv' i HNO.out, ?_, by rw [List.length_set]; exact HS1L.out, ?_⟩
              · rw [cntS_put S1 v i hv' HNO.out, HSC.out]
              · rw [← HSP.out]
                exact (M.place_once (HR1.out (by simp)).1 HRR.out).symm))
            clear HSP HSD HSC HNO
            go_wp2_with (first | (at_lookup; refine wpList_pos rfl _ _ 129 rfl 3 3 (Maps.int_keyed Tryz.underlying3) Tryz.underlying129 Tryz.underlying3 (zeroIntG _) bp l.length D rfl hpos1 (.int .i64 st) _ rfl HKY.out v true HH.out HA.out ?_) | (at_lookup; refine wpList_pos rfl _ _ 129 rfl 3 3 (Maps.int_keyed Tryz.underlying3) Tryz.underlying129 Tryz.underlying3 (zeroIntG _) w3.heap.size cnt1 D1 rfl o10 (.int .i64 (v : Int)) _ rfl HKV.out c2 false HG1.out HG2.out ?_) | (at_mapUpdate; refine wpList_mapUpdate_own _ rfl _ _ _ 129 rfl 3 3 (Maps.int_keyed Tryz.underlying3) Tryz.underlying129 _ w3.heap.size cnt1 _ rfl o10 HCM.out _ _ _ rfl rfl HKV.out _ [] (plainElem_int Tryz.underlying3 HWI.out) ?_; intro w6 hown6 hg6))
            have ls6 : LS w3 w6 w3.heap.size b10 (cnt1 + 1) (D1.put (.int .i64 v) (.lit (.int .i64 i))) := ⟨hl1.bel.grown hg6 hl1.bel.size (fun k e => by cases e; exact Nat.le_refl _), hown6, hl1.x10.grown hg6 (fun e => by have := Option.some.inj e; have := HB10.out; omega)⟩
            exact ⟨rfl, s.xs.length - (j + 1), by omega, j + 1, rfl, rfl, hjl, S1.set v (some i), cnt1 + 1, _, ls6, HNX.out⟩
      · obtain rfl : j = s.xs.length := by omega
        have q4 : decide ((s.xs.length : Int) < (s.xs.length : Int)) = false := decide_eq_false (by omega)
        have HS2 : Hid (Hid (SetD D1 S1 ∧ cnt1 = cntS S1 ∧ S1.length = l.length ∧ M.place l S1 (M.flatO (i + 1) ((os.map (·.xs)).drop (i + 1))) = M.setOf l (os.map (·.xs)))) := Lib.hid (Lib.hid ⟨HS1.out.1, HS1.out.2.1, HS1.out.2.2.1, by
          have h := HS1.out.2.2.2
          rw [List.drop_of_length_le (by simp)] at h
          exact h⟩)
        go_wp2_with fail
        exact ⟨rfl, os.length - (i + 1), by omega, i + 1, rfl, rfl, hlt, S1, cnt1, D1, hl1, HS2.out⟩
    · obtain rfl : i = os.length := by omega
      have q0 : decide ((os.length : Int) < (os.length : Int)) = false := decide_eq_false (by omega)
      have HST : Hid (M.setOf l (os.map (·.xs)) = some S) := Lib.hid (by
        have h := HSS.out.2.2.2
        rw [List.drop_of_length_le (by simp)] at h
        rw [← h]
        rfl)
      have HSD := Lib.hid HSS.out.1
      have HSL := Lib.hid HSS.out.2.2.1
      have HCS := Lib.hid HSS.out.2.1
      have HMS : Hid (Maps.size D2 = cnt) := Lib.hid (by rw [HSS.out.1.sz, HSS.out.2.1])
      clear HSS
      have q6 := z6.below hls.bel
      have c6 := q6.c1
      have f6 := q6.frozen 0
      have c10 := hls.x10.c1
      have o10 := hls.own
      have B0 := after_ B3 hls.bel
      by_cases hfew : cnt < l.length
      · have q1 : decide ((cnt : Int) < (l.length : Int)) = true := decide_eq_true (by omega)
        have HNI : Hid (S.any (fun o => o.isNone) = true) := Lib.hid ((cntS_any S).1 (by rw [← HCS.out, HSL.out]; exact hfew))
        go_wp2_with (at_len; refine wpList_len_own _ rfl _ 129 rfl 3 3 Tryz.underlying129 _ w3.heap.size cnt D2 rfl o10 ?_; rw [HMS.out])
        have z := q6.set 0 (.int .i64 9)
        have hBs := B0.setCell (p := ⟨w.heap.size, 0, none⟩) (Nat.le_refl _) (.int .i64 9)
        refine leaves_marks (B := w.heap.size) (C := w.heap.size) _ _ Marks.none_ (fun W' hs => ?_)
        have z0 := (hs.box z).c1
        refine ⟨.int .i64 9, by simp [results, Tryz.results67, go_sem, z0], ⟨0, HER.out, .inr ⟨rfl, ?_⟩⟩, hBs.trans hs.below⟩
        rw [M.legal_nine (ps := ps) (l := l) HST.out HNI.out]
      · have q1 : decide ((cnt : Int) < (l.length : Int)) = false := decide_eq_false (by omega)
        have HNI : Hid (S.any (fun o => o.isNone) = false) := Lib.hid (by
          cases h : S.any (fun o => o.isNone) with
          | false => rfl
          | true =>
            have := (cntS_any S).2 h
            rw [← HCS.out, HSL.out] at this
            exact absurd this hfew)
        go_wp2_with (at_len; refine wpList_len_own _ rfl _ 129 rfl 3 3 Tryz.underlying129 _ w3.heap.size cnt D2 rfl o10 ?_; rw [HMS.out])
        have HSV : Hid (∀ v, S.getD v none = none → l.length ≤ v) := Lib.hid (fun v hv => by
          rcases Nat.lt_or_ge v l.length with h | h
          · have hv' : v < S.length := by rw [HSL.out]; exact h
            have h1 := HNI.out
            rw [List.any_eq_false] at h1
            have h2 := h1 S[v] (List.getElem_mem hv')
            rw [List.getD_eq_getElem?_getD, List.getElem?_eq_getElem hv', Option.getD_some] at hv
            rw [hv] at h2
            exact absurd rfl h2
          · exact h)
        have HBW : Hid (b10 < W0.heap.size) := Lib.hid hls.x10.lt
        clear c10 o10 c6 f6 hi hlt q1 hfew
        obtain ⟨n, hn⟩ : ∃ n, l.length = n := ⟨_, rfl⟩
        have HN := Lib.hid hn
        have hl5 : n ≤ 512 := by rw [← hn]; exact hl512
        have hdg2 : DG w2 bg (some ⟨g, 0, none⟩) n (M.rows ps l) arcs := by rw [← hn]; exact hdg
        clear hdg hpos
        rw [hn]
        clear hn
        refine wp_loop_mrg [19, 20, 75, 76, 77, 78, 79, 80, 81, 82, 83, 84, 85, 86, 87, 88, 89, 90, 91] (fun mm f ds W1 => ∃ (v : Nat), f 75 = .int .i64 v ∧ mm = n - v ∧ v ≤ n ∧ LS w3 W1 w3.heap.size b10 cnt D2 ∧ Box W1 w.heap.size #[.int .i64 0] 32 ∧ Hid (∀ v', v' < v → ∀ x, x < n → (Dg.row (M.rows ps l) v').testBit x = true → ¬ (S.getD v' none).getD 0 < (S.getD x none).getD 0) ∧ W0.heap.size ≤ W1.heap.size ∧ Marks W0.heap.size W1.heap.size ds W1) n ⟨0, rfl, rfl, Nat.zero_le _, hls, q6, Lib.hid (fun v' h => absurd h (by omega)), Nat.le_refl _, Marks.none_⟩ ?_
        clear hls q6
        intro c2' T2' hc2 hT2
        rintro mm f ds W1 ⟨v, hf75, rfl, hv, hl1, q1, HLT, hsz, hM⟩
        replace hc2 := hc2.out
        subst hc2
        replace hT2 := hT2.out
        subst hT2
        generalize hF : mrgF _ 0 _ _ = F
        simp only [mrg_hit, mrg_miss, Nat.reduceBEq, Nat.reduceAdd] at hF
        rw [hf75] at hF
        subst hF
        by_cases hlt : v < n
        · have x0 : (0 : Int) ≤ (v : Int) := by omega
          have x1 : (v : Int) < (n : Int) := by omega
          have q0 : decide ((v : Int) < (n : Int)) = true := decide_eq_true x1
          have hrl : v < (M.rows ps l).length := by rw [HRL.out, HN.out]; exact hlt
          obtain ⟨X1, HX1, x19, x80, hbX1, hsX1⟩ := boxes2 W1 #[.int .i64 v] 3 #[.int .i64 v] 3
          have hX1 := HX1.out
          clear hsX1
          have c19 := x19.c1
          have B1 := after_ B3 hl1.bel
          have B1x := after_ B1 hbX1
          have kN := dpNext_ok bg _ n (M.rows ps l) arcs (some ⟨W1.heap.size + 1, 0, none⟩) 1 [v] X1 (hdg2.next (after_ (after_ hb3 hl1.bel) hbX1)) hR (by simpa using hrl) (Sl.of_box x80 rfl) (by simp)
          have hse : (Dg.row (M.rows ps l) v).testBit v = false := M.row_self (by rw [HN.out]; exact hlt)
          rw [nextF_one hse] at kN
          have HRB : Hid (∀ x, x ∈ Bs.els (Dg.row (M.rows ps l) v) 0 ↔ (Dg.row (M.rows ps l) v).testBit x = true) := Lib.hid (fun x => Bs.mem_els (hR.row_fit v))
          have HRF : Hid (∀ x ∈ Bs.els (Dg.row (M.rows ps l) v) 0, x < n) := Lib.hid (fun x hx => by
            have h1 := hR.fit _ _ ((HRB.out x).1 hx)
            rwa [HRL.out, HN.out] at h1)
          have HLATE : Hid (∀ x, x ∈ Bs.els (Dg.row (M.rows ps l) v) 0 → (S.getD v none).getD 0 < (S.getD x none).getD 0 → M.legal ps l (os.map (·.xs)) = 10) := Lib.hid (fun x hx h => M.legal_late HST.out HNI.out (by rw [HN.out]; exact hlt) (by rw [HN.out]; exact HRF.out x hx) ((HRB.out x).1 hx) h)
          have HSTEP : Hid ((∀ x ∈ Bs.els (Dg.row (M.rows ps l) v) 0, ¬ (S.getD v none).getD 0 < (S.getD x none).getD 0) → ∀ v', v' < v + 1 → ∀ x, x < n → (Dg.row (M.rows ps l) v').testBit x = true → ¬ (S.getD v' none).getD 0 < (S.getD x none).getD 0) := Lib.hid (fun h v' hv' x hx hb => by
            by_cases e : v' = v
            · subst e; exact h x ((HRB.out x).2 hb)
            · exact HLT.out v' (by omega) x hx hb)
          clear HRB HLT
          generalize Dg.row (M.rows ps l) v = rw_ at *
          go_wp2_with fail
          clear hX1 c19
          refine kN.mono ?_
          rintro e w5 ⟨rfl, hb5⟩
          clear kN hse
          have hl5' := (hl1.next hbX1).next hb5
          have q5 := (q1.below hbX1).below hb5
          have z19 := x19.below hb5
          have hM5 := (hM.below hbX1).below hb5
          go_wp2_with fail
          refine (bsAll_ok rw_ w5).mono ?_
          rintro e w6 ⟨rfl, hb6, hs6, xb⟩
          have hl6 := hl5'.next hb6
          have q6 := q5.below hb6
          have z19 := z19.below hb6
          have hsz6 : W1.heap.size ≤ w6.heap.size := by have := hbX1.size; have := hb5.size; have := hb6.size; omega
          have hM6 := (hM5.below hb6).more (C' := w6.heap.size) hsz6
          have h19 : W1.heap.size < w5.heap.size := by have := x19.lt; have := hb5.size; omega
          have HW6 : Hid (w3.heap.size ≤ w6.heap.size ∧ w3.heap.size < w6.heap.size ∧ w.heap.size ≤ w6.heap.size) := Lib.hid (by have := HB10.out; have := HBW.out; have := hsz6; have := B3.size; omega)
          clear hl5' q5 hM5 hM
          go_wp2_with fail
          refine wp_range (gf := 123) (lb := #[.pointer (some ⟨w5.heap.size, 0, none⟩)]) rfl (enters_of Tryz.func123 (by kernel_rfl) rfl) (bsAll_seq w5.heap.size rw_) (fun _ => rfl)
            (fun pre W => LS w3 W w3.heap.size b10 cnt D2 ∧ Box W W1.heap.size #[.int .i64 v] 3 ∧ Box W w5.heap.size (bsc rw_) 169 ∧ Box W w.heap.size #[.int .i64 0] 32 ∧ Marks W0.heap.size w6.heap.size ds W ∧ Hid (∀ x ∈ pre, ¬ (S.getD v none).getD 0 < (S.getD x none).getD 0)) (fun c pre W => c = .ret ∧ Below w.heap.size w W ∧ Box W w.heap.size #[.int .i64 10] 32 ∧ Marks W0.heap.size w6.heap.size ds W ∧ Hid (M.legal ps l (os.map (·.xs)) = 10))
            ?hI ?hJ ?hK ⟨hl6, z19, xb, q6, hM6, Lib.hid (fun x h => by cases h)⟩ ?round ?done ?stop
          case hI => exact fun pre W W' row ⟨h1, h2, h3, h4, h5, h6⟩ hg hr => ⟨h1.own' HW6.out.1 HW6.out.2.1 hg hr, h2.own hg hr, h3.own hg hr, h4.own hg hr, h5.own (Nat.le_refl _) hg hr, h6⟩
          case hJ => exact fun c pre W W' row ⟨h1, h2, h3, h4, h5⟩ hg hr => ⟨h1, below_own h2 HW6.out.2.2 h2.size hg hr, h3.own hg hr, h4.own (Nat.le_refl _) hg hr, h5⟩
          case hK => exact fun pre W ⟨h1, h2, h3, h4⟩ => ⟨h3, ht.kept (after_ B3 h1.bel)⟩
          case round =>
            clear z19 xb q6 hl6 hM6
            intro r' pre x post W hL hl' hd hi'
            gi_wp2
            refine ⟨hl', hd, hi', fun _ => True, fun _ _ _ _ _ _ _ => trivial, trivial, ?_⟩
            clear hl' hd hi'
            rintro r'' W2 hl' hd ⟨h1, h2, h3, h4, h5, h6⟩ -
            have hxn := HRF.out x (by rw [hL]; simp)
            have HXL := Lib.hid (HLATE.out x (by rw [hL]; simp))
            clear hL
            have c10 := h1.x10.c1
            have c19 := h2.c1
            have c6 := h4.c1
            have f6 := h4.frozen 0
            obtain ⟨cv, hrv, hav, -⟩ := h1.own.lookup_int (Maps.int_keyed Tryz.underlying3) Tryz.underlying129 Tryz.underlying3 (zeroIntG _) (Maps.keyOf_int_mk (P := Tryz.prog) Tryz.underlying3 (wf64 ⟨by omega, by omega⟩) : keyOf Tryz.prog 3 (.int .i64 (v : Int)) = some (.int .i64 (v : Int)))
            obtain ⟨cx, hrx, hax, -⟩ := h1.own.lookup_int (Maps.int_keyed Tryz.underlying3) Tryz.underlying129 Tryz.underlying3 (zeroIntG _) (Maps.keyOf_int_mk (P := Tryz.prog) Tryz.underlying3 (wf64 ⟨by omega, by omega⟩) : keyOf Tryz.prog 3 (.int .i64 (x : Int)) = some (.int .i64 (x : Int)))
            have hev : cv = ((S.getD v none).getD 0 : Nat) := by
              rw [(HSD.out.get v).2] at hav
              injection hav with hav
              injection hav with _ hav
              exact hav.symm
            have hex : cx = ((S.getD x none).getD 0 : Nat) := by
              rw [(HSD.out.get x).2] at hax
              injection hax with hax
              injection hax with _ hax
              exact hax.symm
            clear hav hax
            obtain ⟨a, ha⟩ : ∃ a, (S.getD v none).getD 0 = a := ⟨_, rfl⟩
            obtain ⟨b, hb⟩ : ∃ b, (S.getD x none).getD 0 = b := ⟨_, rfl⟩
            rw [ha, hb] at HXL
            rw [ha] at h6 hev
            rw [hb] at hex
            have HX6 : Hid (¬ a < b → ∀ y ∈ pre ++ [x], ¬ a < (S.getD y none).getD 0) := Lib.hid (fun h y hy => by
              rcases List.mem_append.1 hy with h1 | h1
              · exact h6.out y h1
              · rw [List.mem_singleton.1 h1, hb]; exact h)
            have HA := Lib.hid ha
            clear ha hb
            subst hev hex
            by_cases hab : a < b
            · have q1 : decide ((a : Int) < (b : Int)) = true := decide_eq_true (by omega)
              gi_wp2_with fail
              exact ⟨hl'.set_other (hl'.ne_box rfl h4) _, hd.set_other (hd.ne_box rfl h4) _, rfl, (after_ B3 h1.bel).setCell (p := ⟨w.heap.size, 0, none⟩) (Nat.le_refl _) _, h4.set 0 _, h5.set_other h4 _, Lib.hid (HXL.out hab)⟩
            · have q1 : decide ((a : Int) < (b : Int)) = false := decide_eq_false (by omega)
              gi_wp2_with fail
              exact ⟨hl', hd, h1, h2, h3, h4, h5, Lib.hid (by rw [HA.out]; exact HX6.out hab)⟩
          case done =>
            rintro W ⟨h1, h2, h3, h4, h5, h6⟩ hD
            have hMf := h5.cons (C := w6.heap.size) (D := w6.heap.size) (by omega) (Nat.le_refl _) hD
            have hDl := hD.lt
            have HN2 := Lib.hid (HSTEP.out h6.out)
            have hMg := hMf.more (C' := W.heap.size) (by omega)
            clear h2 h3 hD z19 xb hl6 hM6 hs6 hMf h5 h6 q6
            go_wp2_with fail
            exact ⟨_, rfl, rfl, n - (v + 1), by omega, v + 1, rfl, rfl, hlt, h1, h4, HN2, by omega, hMg⟩
          case stop =>
            rintro c pre W ⟨rfl, h2, h3, h5, h6⟩ hD
            have hMf := h5.cons (C := w6.heap.size) (D := w6.heap.size) (by omega) (Nat.le_refl _) hD
            go_wp2_with fail
            refine leaves_marks (B := W0.heap.size) _ _ hMf (fun W' hs => ?_)
            have z0 := (hs.box h3).c1
            refine ⟨.int .i64 10, by simp [results, Tryz.results67, go_sem, z0], ⟨0, HER.out, .inr ⟨rfl, ?_⟩⟩, h2.trans (hs.below.mono B0.size)⟩
            rw [h6.out]
        · obtain rfl : v = n := by omega
          have q0 : decide ((v : Int) < (v : Int)) = false := decide_eq_false (by omega)
          have c6 := q1.c1
          have f6 := q1.frozen 0
          have HE : Hid (M.legal ps l (os.map (·.xs)) = 0) := Lib.hid (M.legal_fine HST.out HNI.out (fun a b ha hb h => HLT.out a (by rw [← HN.out]; exact ha) b (by rw [← HN.out]; exact hb) h))
          clear HLT
          have B1 := after_ B3 hl1.bel
          go_wp2_with fail
          have z := q1.set 0 (.int .i64 0)
          have hBs := B1.setCell (p := ⟨w.heap.size, 0, none⟩) (Nat.le_refl _) (.int .i64 0)
          have hMs := hM.set_other (i := 0) q1 (.int .i64 0)
          refine leaves_marks (B := W0.heap.size) _ _ hMs (fun W' hs => ?_)
          have z0 := (hs.box z).c1
          refine ⟨.int .i64 0, by simp [results, Tryz.results67, go_sem, z0], ⟨0, HER.out, .inr ⟨rfl, ?_⟩⟩, hBs.trans (hs.below.mono B0.size)⟩
          rw [HE.out]
end Go.Proofs.YtpkepgcmifdpfaaGreatDoor
end
