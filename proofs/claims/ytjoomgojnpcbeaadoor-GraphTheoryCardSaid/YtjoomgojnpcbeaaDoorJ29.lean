/- A bundle of texts: Lb1, LbCo, LbTa, LbTh. -/
import Derived.Test.YtjoomgojnpcbeaaDoorJ27
import Derived.Test.YtjoomgojnpcbeaaDoorJ26
import Derived.Test.YtjoomgojnpcbeaaDoorJ28
import Derived.Test.YtjoomgojnpcbeaaDoorJ14
section
namespace Go.Proofs.YtjoomgojnpcbeaaDoor
open Go Go.RowKit Gh
set_option maxRecDepth 100000
structure LG (w W : World) (g bg n : Nat) (R : List Nat) (E : List Ge.Ed) (EA : Option Addr) (ec : Nat) : Prop where
  bel : Below w.heap.size w W
  ge : GE W w.heap.size g bg n R E EA ec
  tab0 : Tab64 w
  el : E.length ≤ 1000
section
variable {w W W' : World} {g bg n : Nat} {R : List Nat} {E : List Ge.Ed} {EA : Option Addr} {ec : Nat}
theorem LG.tab (h : LG w W g bg n R E EA ec) : Tab64 W := h.tab0.kept h.bel
theorem LG.next (h : LG w W g bg n R E EA ec) (hb : Below W.heap.size W W') : LG w W' g bg n R E EA ec := ⟨after_ h.bel hb, h.ge.next hb, h.tab0, h.el⟩
theorem LG.er (h : LG w W g bg n R E EA ec) : Ge.ER n E R := h.ge.er
theorem LG.len (h : LG w W g bg n R E EA ec) : R.length = n := h.ge.er.len
theorem LG.known (h : LG w W g bg n R E EA ec) : Calls Tryd.prog 11 #[] W fun e w' => e = .returned (.bool true) ∧ Below W.heap.size W w' := known08_any W h.tab
theorem LG.of {m : Nat} {l : List (Int × Int)} (ht : Tab64 w) (hl : l.length ≤ 1000) (hb : Below w.heap.size w W) (ge : GE W w.heap.size g bg m R (Ge.bld m l) EA ec) : LG w W g bg m R (Ge.bld m l) EA ec :=
  ⟨hb, ge, ht, by have := Ge.bld_len m l l.length (Nat.le_refl _); rw [List.take_length] at this; omega⟩
theorem LG.comps (h : LG w W g bg n R E EA ec) : Calls Tryd.prog 14 #[gp bg] W fun e w' => (∃ A c ls, e = .returned (.slice A ls.length c) ∧ LL w' A ls ∧ ls.map (·.xs) = (Ge.comps E (List.range n)).map bsl) ∧ Below W.heap.size W w' := by
  refine (ghComponents_ok _ R W h.ge.go.gg.v h.er.ok h.er.sy h.tab).mono ?_
  rintro e w' ⟨v, ls, rfl, hlo, hls, hb⟩
  obtain ⟨A, c, rfl, hll⟩ := hlo.sl_
  exact ⟨⟨A, c, ls, rfl, hll, by rw [hls, h.er.comps]⟩, hb⟩
theorem LG.degen (h : LG w W g bg n R E EA ec) : Calls Tryd.prog 20 #[gp bg] W fun e w' => (∃ A c, e = .returned (.tuple #[.slice A n c, .int .i64 ((Ge.rem E n n).2.2 : Nat)]) ∧ Sl 1 icell w' w'.heap.size A (bsl (Ge.rem E n n).1)) ∧ Below W.heap.size W w' := by
  refine (ghDegeneracy_ok _ R W h.ge.go.gg.v h.er.ok.len h.er.fit h.er.sy h.tab).mono ?_
  rintro e w' ⟨A, c, rfl, hS, hb⟩
  rw [h.er.rem n (Nat.le_refl _)]
  rw [h.len] at hS ⊢
  exact ⟨⟨A, c, rfl, hS⟩, hb⟩
theorem rem_len (er : Ge.ER n E R) : (Ge.rem E n n).1.length = n ∧ n ≤ 512 := ⟨(Ge.rem_left (E := E) (n := n) n (Nat.le_refl _)).2.2.1, er.le⟩
theorem cliq_len (er : Ge.ER n E R) : (Ge.cliq E n).length ≤ 512 := by rw [er.cliq]; exact Bs.els_len _ _
theorem LG.clique (h : LG w W g bg n R E EA ec) : Calls Tryd.prog 22 #[gp bg] W fun e w' => (∃ A c, e = .returned (.slice A (Ge.cliq E n).length c) ∧ Sl 1 icell w' w'.heap.size A (bsl (Ge.cliq E n))) ∧ Below W.heap.size W w' := by
  refine (ghClique_ok _ R W h.ge.go.gg.v h.er.ok.len h.er.fit h.er.sy h.tab).mono ?_
  rintro e w' ⟨A, c, rfl, hS, hb⟩
  rw [bsl_len, h.er.cliq]
  exact ⟨⟨A, c, rfl, hS⟩, hb⟩
theorem LG.colour (h : LG w W g bg n R E EA ec) (OA : Option Addr) (oc : Nat) (o : List Int) (hO : Sl 1 icell W W.heap.size OA o) (hf : Ge.full n o = true) : Calls Tryd.prog 24 #[gp bg, .slice OA o.length oc] W fun e w' => (∃ A c O, o = bsl O ∧ e = .returned (.tuple #[.slice A n c, .int .i64 0]) ∧ Sl 1 icell w' w'.heap.size A (nfl n (Ge.colE E O O.length).2)) ∧ Below W.heap.size W w' := by
  rw [Ge.full_iff, Bool.and_eq_true, decide_eq_true_eq] at hf
  have h512 := h.er.le
  refine (ghColour_ok bg _ n R E.length OA oc o W h.tab h.ge.go.gg h.er.ok.len h.er.fit hO (by omega)).mono ?_
  rintro e w' ⟨⟨-, A, c, O, rfl, rfl, hS⟩ | ⟨hn, -⟩, hb⟩
  · rw [h.len] at hS ⊢
    have hnd : O.Nodup := by
      have h1 := (okO_nodup n _ _ hf.2).1
      unfold bsl at h1
      exact (List.pairwise_map.1 h1).imp (fun h2 e => h2 (by rw [e]))
    have hc := h.er.col hnd O.length (Nat.le_refl _)
    rw [List.take_length] at hc
    rw [← hc] at hS
    exact ⟨⟨A, c, O, rfl, rfl, hS⟩, hb⟩
  · rw [h.len] at hn
    exact absurd hf hn
end
end Go.Proofs.YtjoomgojnpcbeaaDoor
end

section
namespace Go.Proofs.YtjoomgojnpcbeaaDoor
open Go Go.RowKit Gh
set_option maxRecDepth 100000
end Go.Proofs.YtjoomgojnpcbeaaDoor
end

section
namespace Go.Proofs.YtjoomgojnpcbeaaDoor
open Go Go.RowKit Gh
set_option maxRecDepth 100000
def cntB (e : Ge.Ed) (ls : List SLc) : Nat := (ls.filter fun s => decide ((e.1 : Int) ∈ s.xs) && decide ((e.2 : Int) ∈ s.xs)).length
theorem cntB_snoc (e : Ge.Ed) (ls : List SLc) (s : SLc) : cntB e (ls ++ [s]) = if (decide ((e.1 : Int) ∈ s.xs) && decide ((e.2 : Int) ∈ s.xs)) = true then cntB e ls + 1 else cntB e ls := by
  unfold cntB
  rw [List.filter_append, List.length_append]
  split
  · next h => simp [h]
  · next h => simp [h]
theorem cntB_le (e : Ge.Ed) (ls : List SLc) : cntB e ls ≤ ls.length := List.length_filter_le _ _
theorem LL.at_ {w : World} {A : Option Addr} {ls : List SLc} (h : LL w A ls) {k : Nat} (hk : k < ls.length) : ∃ ad, A = some ad ∧ (ad.add k).block < w.heap.size ∧ w.cell? (ad.add k) = some (.slice ls[k].A ls[k].xs.length ls[k].c) := h.outer.one_at hk
set_option maxHeartbeats 64000000 in
theorem th_l1 {Q : Exit → Act → World → Prop} {cd : Code} {ds0 : List Deferred} {Z0 Z1 Z2 Z3 Z4 Z5 Z8 Za Zb Zc Zd Ze Zf Zg Zh Zi Zj Zk Zl Zm Zn Zo Zp Zq Zr Zs Zt Zu Zv Zw Zx Zy Zz Z10 Z11 Z12 Z13 Z14 Z15 Z16 Z17 Z18 Z19 Z1a Z1b Z1c Z1d Z1e Z1f Z1g Z1h Z1i Z1j Z1k Z1l Z1m Z1n Z1o Z1p Z1q Z1r Z1s Z1t Z1u Z1v Z1w Z1x Z1y Z1z Z20 Z21 Z22 Z23 Z24 Z25 Z26 Z27 Z28 Z29 Z2a Z2b Z2c Z2d Z2e Z2f Z2g Z2h Z2i Z2j Z2k Z2l Z2m Z2n Z2o Z2p Z2q Z2r Z2s Z2t Z2u Z2v Z2w Z2x Z2y Z2z Z30 Z31 Z32 Z33 Z34 Z35 Z36 Z37 Z38 Z39 Z3a Z3b Z3c Z3d Z3e Z3f Z3g Z3h Z3i Z3j Z3k Z3l Z3m Z3n Z3o Z3p Z3q Z3r Z3s Z3t Z3u Z3v Z3w Z3x Z3y Z3z Z40 Z41 Z42 Z43 Z44 Z45 Z46 Z47 Z48 Z49 Z4a Z4b Z4c Z4d Z4e Z4f Z4g Z4h Z4i Z4j Z4k Z4l Z4m Z4n Z4o Z4p Z4q Z4r Z4s Z4t Z4u Z4v Z4w Z4x Z4y Z4z Z50 Z51 Z52 Z53 Z54 Z55 Z56 Z57 Z58 Z59 Z5a Z5b Z5c Z5d Z5e Z5f Z5g Z5h Z5i Z5j Z5k Z5l Z5m Z5n Z5o Z5p Z5q Z5r Z5s Z5t Z5u : Value} (W : World) (EA : Option Addr) (ec : Nat) (E : List Ge.Ed) (BA : Option Addr) (bc : Nat) (bls : List SLc) (hE : Sl 2 ecell W W.heap.size EA E) (hEl : E.length ≤ 1000) (hB : LL W BA bls) (hBl : bls.length ≤ 1000) (hBi : ∀ s ∈ bls, s.xs.length ≤ 1000) (hcnt : ∀ e ∈ E, cntB e bls = 1) (hcd : (Tryd.f7.body.bind (blockOf 0)) = some cd)
    (hQ : ∀ (y9 y10 y11 y48 y49 y50 y51 y52 y53 y54 y55 y56 y57 y58 y59 y60 y61 y62 y63 y64 y65 y66 y67 y68 y69 y70 y71 y72 y73 y74 y75 y76 y77 y78 y79 y80 y81 y82 y83 y84 y85 : Value) (W' : World), Below W.heap.size W W' → Q .normal ⟨#[Z0, Z1, Z2, Z3, Z4, Z5, .slice EA E.length ec, .slice BA bls.length bc, Z8, y9, y10, y11, Zc, Zd, Ze, Zf, Zg, Zh, Zi, Zj, Zk, Zl, Zm, Zn, Zo, Zp, Zq, Zr, Zs, Zt, Zu, Zv, Zw, Zx, Zy, Zz, Z10, Z11, Z12, Z13, Z14, Z15, Z16, Z17, Z18, Z19, Z1a, Z1b, y48, y49, y50, y51, y52, y53, y54, y55, y56, y57, y58, y59, y60, y61, y62, y63, y64, y65, y66, y67, y68, y69, y70, y71, y72, y73, y74, y75, y76, y77, y78, y79, y80, y81, y82, y83, y84, y85, Z2e, Z2f, Z2g, Z2h, Z2i, Z2j, Z2k, Z2l, Z2m, Z2n, Z2o, Z2p, Z2q, Z2r, Z2s, Z2t, Z2u, Z2v, Z2w, Z2x, Z2y, Z2z, Z30, Z31, Z32, Z33, Z34, Z35, Z36, Z37, Z38, Z39, Z3a, Z3b, Z3c, Z3d, Z3e, Z3f, Z3g, Z3h, Z3i, Z3j, Z3k, Z3l, Z3m, Z3n, Z3o, Z3p, Z3q, Z3r, Z3s, Z3t, Z3u, Z3v, Z3w, Z3x, Z3y, Z3z, Z40, Z41, Z42, Z43, Z44, Z45, Z46, Z47, Z48, Z49, Z4a, Z4b, Z4c, Z4d, Z4e, Z4f, Z4g, Z4h, Z4i, Z4j, Z4k, Z4l, Z4m, Z4n, Z4o, Z4p, Z4q, Z4r, Z4s, Z4t, Z4u, Z4v, Z4w, Z4x, Z4y, Z4z, Z50, Z51, Z52, Z53, Z54, Z55, Z56, Z57, Z58, Z59, Z5a, Z5b, Z5c, Z5d, Z5e, Z5f, Z5g, Z5h, Z5i, Z5j, Z5k, Z5l, Z5m, Z5n, Z5o, Z5p, Z5q, Z5r, Z5s, Z5t, Z5u], ds0⟩ W') :
    cd.wp Tryd.prog Q ⟨#[Z0, Z1, Z2, Z3, Z4, Z5, .slice EA E.length ec, .slice BA bls.length bc, Z8, .int .i64 0, Za, Zb, Zc, Zd, Ze, Zf, Zg, Zh, Zi, Zj, Zk, Zl, Zm, Zn, Zo, Zp, Zq, Zr, Zs, Zt, Zu, Zv, Zw, Zx, Zy, Zz, Z10, Z11, Z12, Z13, Z14, Z15, Z16, Z17, Z18, Z19, Z1a, Z1b, Z1c, Z1d, Z1e, Z1f, Z1g, Z1h, Z1i, Z1j, Z1k, Z1l, Z1m, Z1n, Z1o, Z1p, Z1q, Z1r, Z1s, Z1t, Z1u, Z1v, Z1w, Z1x, Z1y, Z1z, Z20, Z21, Z22, Z23, Z24, Z25, Z26, Z27, Z28, Z29, Z2a, Z2b, Z2c, Z2d, Z2e, Z2f, Z2g, Z2h, Z2i, Z2j, Z2k, Z2l, Z2m, Z2n, Z2o, Z2p, Z2q, Z2r, Z2s, Z2t, Z2u, Z2v, Z2w, Z2x, Z2y, Z2z, Z30, Z31, Z32, Z33, Z34, Z35, Z36, Z37, Z38, Z39, Z3a, Z3b, Z3c, Z3d, Z3e, Z3f, Z3g, Z3h, Z3i, Z3j, Z3k, Z3l, Z3m, Z3n, Z3o, Z3p, Z3q, Z3r, Z3s, Z3t, Z3u, Z3v, Z3w, Z3x, Z3y, Z3z, Z40, Z41, Z42, Z43, Z44, Z45, Z46, Z47, Z48, Z49, Z4a, Z4b, Z4c, Z4d, Z4e, Z4f, Z4g, Z4h, Z4i, Z4j, Z4k, Z4l, Z4m, Z4n, Z4o, Z4p, Z4q, Z4r, Z4s, Z4t, Z4u, Z4v, Z4w, Z4x, Z4y, Z4z, Z50, Z51, Z52, Z53, Z54, Z55, Z56, Z57, Z58, Z59, Z5a, Z5b, Z5c, Z5d, Z5e, Z5f, Z5g, Z5h, Z5i, Z5j, Z5k, Z5l, Z5m, Z5n, Z5o, Z5p, Z5q, Z5r, Z5s, Z5t, Z5u], ds0⟩ W := by
  rw [show (Tryd.f7.body.bind (blockOf 0)) = some (Code.block 0 _) from rfl] at hcd
  obtain rfl := Option.some.inj hcd
  clear hcd
  have HQ := Lib.hid hQ
  clear hQ
  refine wp_block ?_
  have HCNT := Lib.hid hcnt
  have HBI := Lib.hid hBi
  clear hcnt hBi
  refine wp_loop_mrg [9, 10, 11, 48, 49, 50, 51, 52, 53, 54, 55, 56, 57, 58, 59, 60, 61, 62, 63, 64, 65, 66, 67, 68, 69, 70, 71, 72, 73, 74, 75, 76, 77, 78, 79, 80, 81, 82, 83, 84, 85] (fun mm f ds W1 => ds = ds0 ∧ ∃ (i : Nat), f 9 = .int .i64 i ∧ E.length - i = mm ∧ i ≤ E.length ∧ Below W.heap.size W W1) E.length ⟨rfl, 0, rfl, rfl, Nat.zero_le _, Below.refl _ _⟩ ?_
  intro c1' T1' hc2 hT2
  rintro mm f ds W1 ⟨rfl, i, hf9, rfl, hi, hb1⟩
  replace hc2 := hc2.out
  subst hc2
  replace hT2 := hT2.out
  subst hT2
  generalize hF : mrgF _ 0 _ _ = F
  simp only [mrg_hit, mrg_miss, mrg_end, Nat.reduceBEq, Nat.reduceAdd] at hF
  rw [hf9] at hF
  subst hF
  clear hf9
  by_cases hil : i < E.length
  · have x0 : (0 : Int) ≤ (i : Int) := by omega
    have x1 : (i : Int) < (E.length : Int) := by omega
    have q0 : decide ((i : Int) < (E.length : Int)) = true := decide_eq_true x1
    have hC1 := HCNT.out _ (List.getElem_mem hil)
    obtain ⟨ed, hed⟩ : ∃ ed, E[i] = ed := ⟨_, rfl⟩
    rw [hed] at hC1
    have HED := Lib.hid hed
    have HC1 := Lib.hid hC1
    clear hed hC1
    refine wp_seq_k ?_
    intro Ka hKa
    have HKa := Lib.hid hKa
    clear hKa
    go_wp2_with fail
    refine HKa.out _ _ ?_
    clear HKa
    refine wp_seq_k ?_
    intro Kb hKb
    have HKb := Lib.hid hKb
    clear hKb
    refine wp_block ?_
    refine wp_seq_k ?_
    intro Kc hKc
    have HKc := Lib.hid hKc
    clear hKc
    go_wp2_with fail
    refine HKc.out _ _ ?_
    clear HKc
    refine wp_seq_k ?_
    intro Kd hKd
    have HKd := Lib.hid hKd
    clear hKd
    refine wp_seq_k ?_
    intro Ke hKe
    have HKe := Lib.hid hKe
    clear hKe
    go_wp2_with fail
    refine HKe.out _ _ ?_
    clear HKe
    refine wp_block ?_
    refine wp_loop_mrg [10, 11, 54, 55, 56, 57, 58, 59, 60, 61, 62, 63, 64, 65, 66, 67, 68, 69, 70, 71, 72, 73, 74, 75, 76, 77, 78, 79, 80, 81, 82, 83] (fun mm f dsx W2 => dsx = ds ∧ ∃ (m : Nat), f 11 = .int .i64 m ∧ f 10 = .int .i64 (cntB ed (bls.take m) : Nat) ∧ bls.length - m = mm ∧ m ≤ bls.length ∧ Below W.heap.size W W2) bls.length ⟨rfl, 0, rfl, rfl, rfl, Nat.zero_le _, hb1⟩ ?_
    intro c2' T2' hc2 hT2
    rintro mm f dsx W2 ⟨rfl, m, hf11, hf10, rfl, hm, hb2⟩
    replace hc2 := hc2.out
    subst hc2
    replace hT2 := hT2.out
    subst hT2
    generalize hF : mrgF _ 0 _ _ = F
    simp only [mrg_hit, mrg_miss, mrg_end, Nat.reduceBEq, Nat.reduceAdd] at hF
    rw [hf11, hf10] at hF
    subst hF
    clear hf11 hf10
    have hs2 := hb2.size
    by_cases hml : m < bls.length
    · have y0 : (0 : Int) ≤ (m : Int) := by omega
      have y1 : (m : Int) < (bls.length : Int) := by omega
      have q1 : decide ((m : Int) < (bls.length : Int)) = true := decide_eq_true y1
      have hB2 := hB.next hb2
      obtain ⟨lb, hlb, hlb2, c0⟩ := hB2.at_ hml
      obtain ⟨la, hla, hla2, a0, a1⟩ := ((hE.below hb2).more hs2).edge_at hil
      rw [HED.out] at a0 a1
      have HCN : Hid (cntB ed (bls.take (m + 1)) = if (decide ((ed.1 : Int) ∈ bls[m].xs) && decide ((ed.2 : Int) ∈ bls[m].xs)) = true then cntB ed (bls.take m) + 1 else cntB ed (bls.take m)) := Lib.hid (by rw [List.take_succ_eq_append_getElem hml, cntB_snoc])
      have hcl : cntB ed (bls.take m) ≤ 1000 := by
        have := cntB_le ed (bls.take m)
        rw [List.length_take] at this
        omega
      have hin := hB2.inner _ (List.getElem_mem hml)
      have hil2 := HBI.out _ (List.getElem_mem hml)
      have hinx := fun v => fun (u : Kept W2.heap.size W2) => (rIn_any bls[m].A bls[m].c bls[m].xs v u.val ((hin.below u.h).more u.h.size) (by omega)).mono (R' := fun e w' => e = .returned (.bool (decide (v ∈ bls[m].xs))) ∧ Below u.val.heap.size u.val w') (by rintro e w' ⟨rfl, rfl⟩; exact ⟨rfl, Below.refl _ _⟩)
      generalize bls[m] = sb at *
      obtain ⟨a, b⟩ := ed
      dsimp only at a0 a1 HCN
      obtain ⟨r1, hr1⟩ : ∃ r, decide ((a : Int) ∈ sb.xs) = r := ⟨_, rfl⟩
      obtain ⟨r2, hr2⟩ : ∃ r, decide ((b : Int) ∈ sb.xs) = r := ⟨_, rfl⟩
      have k1 := hinx a
      have k2 := hinx b
      rw [hr1] at k1 HCN
      rw [hr2] at k2 HCN
      have KI1 := Lib.hid k1
      have KI2 := Lib.hid k2
      clear hr1 hr2 k1 k2 hinx hin
      generalize cntB (a, b) (bls.take m) = cm at *
      obtain rfl := hla
      obtain rfl := hlb
      have hund : undef = Value.tuple #[] := rfl
      cases r1 with
      | false =>
        have HC2 : Hid (cntB (a, b) (bls.take (m + 1)) = cm) := Lib.hid (by rw [HCN.out]; rfl)
        clear HCN
        go_wp2_with fail
        refine wp_region_kept W2.heap.size W2 (by kernel_rfl) (by kernel_rfl) (Below.refl _ _) ?_
        repeat (go_big_quiet_step ((go_at_call 27; first | (with_reducible exact Kept.calls (Nat.le_refl _) (KI1.out _)) | (with_reducible exact Kept.calls (Nat.le_refl _) (KI2.out _)))))
        refine wpQuiet_nil ?_
        rintro w5 ⟨⟨_, hb5⟩, rfl⟩
        clear KI1 KI2 c0 a0 a1 hund
        have hb6 := hb2.trans (hb5.mono hs2)
        go_wp2_with fail
        exact ⟨_, rfl, rfl, bls.length - (m + 1), by omega, by trivial, m + 1, rfl, by rw [HC2.out]; rfl, rfl, hml, hb6⟩
      | true =>
        cases r2 with
        | false =>
          have HC2 : Hid (cntB (a, b) (bls.take (m + 1)) = cm) := Lib.hid (by rw [HCN.out]; rfl)
          clear HCN
          go_wp2_with fail
          refine wp_region_kept W2.heap.size W2 (by kernel_rfl) (by kernel_rfl) (Below.refl _ _) ?_
          repeat (go_big_quiet_step ((go_at_call 27; first | (with_reducible exact Kept.calls (Nat.le_refl _) (KI1.out _)) | (with_reducible exact Kept.calls (Nat.le_refl _) (KI2.out _)))))
          refine wpQuiet_nil ?_
          rintro w5 ⟨⟨_, hb5⟩, rfl⟩
          clear KI1 KI2 c0 a0 a1 hund
          have hb6 := hb2.trans (hb5.mono hs2)
          go_wp2_with fail
          exact ⟨_, rfl, rfl, bls.length - (m + 1), by omega, by trivial, m + 1, rfl, by rw [HC2.out]; rfl, rfl, hml, hb6⟩
        | true =>
          have HC2 : Hid (cntB (a, b) (bls.take (m + 1)) = cm + 1) := Lib.hid (by rw [HCN.out]; rfl)
          clear HCN
          go_wp2_with fail
          refine wp_region_kept W2.heap.size W2 (by kernel_rfl) (by kernel_rfl) (Below.refl _ _) ?_
          repeat (go_big_quiet_step ((go_at_call 27; first | (with_reducible exact Kept.calls (Nat.le_refl _) (KI1.out _)) | (with_reducible exact Kept.calls (Nat.le_refl _) (KI2.out _)))))
          refine wpQuiet_nil ?_
          rintro w5 ⟨⟨_, hb5⟩, rfl⟩
          clear KI1 KI2 c0 a0 a1 hund
          have hb6 := hb2.trans (hb5.mono hs2)
          go_wp2_with fail
          exact ⟨_, rfl, rfl, bls.length - (m + 1), by omega, by trivial, m + 1, rfl, by rw [HC2.out]; rfl, rfl, hml, hb6⟩
    · obtain rfl : m = bls.length := by omega
      have q1 : decide ((bls.length : Int) < (bls.length : Int)) = false := decide_eq_false (by omega)
      rw [List.take_length, HC1.out]
      go_wp2_with fail
      refine HKd.out _ _ ?_
      clear HKd
      go_wp2_with fail
      refine HKb.out _ _ ?_
      clear HKb
      go_wp2_with fail
      exact ⟨_, rfl, rfl, E.length - (i + 1), by omega, by trivial, i + 1, rfl, rfl, hil, hb2⟩
  · obtain rfl : i = E.length := by omega
    have q0 : decide ((E.length : Int) < (E.length : Int)) = false := decide_eq_false (by omega)
    go_wp2_with fail
    exact HQ.out _ _ _ _ _ _ _ _ _ _ _ _ _ _ _ _ _ _ _ _ _ _ _ _ _ _ _ _ _ _ _ _ _ _ _ _ _ _ _ _ _ _ hb1
set_option maxHeartbeats 64000000 in
theorem th_l3 {Q : Exit → Act → World → Prop} {cd : Code} {ds0 : List Deferred} {Z0 Z1 Z2 Z3 Z4 Z5 Z6 Z7 Z8 Z9 Za Zb Zd Zg Zh Zi Zj Zk Zl Zm Zn Zo Zp Zq Zr Zs Zt Zu Zv Zw Zx Zy Zz Z10 Z11 Z12 Z13 Z14 Z15 Z16 Z17 Z18 Z19 Z1a Z1b Z1c Z1d Z1e Z1f Z1g Z1h Z1i Z1j Z1k Z1l Z1m Z1n Z1o Z1p Z1q Z1r Z1s Z1t Z1u Z1v Z1w Z1x Z1y Z1z Z20 Z21 Z22 Z23 Z24 Z25 Z26 Z27 Z28 Z29 Z2a Z2b Z2c Z2d Z2e Z2f Z2g Z2h Z2i Z2j Z2k Z2l Z2m Z2n Z2o Z2p Z2q Z2r Z2s Z2t Z2u Z2v Z2w Z2x Z2y Z2z Z30 Z31 Z32 Z33 Z34 Z35 Z36 Z37 Z38 Z39 Z3a Z3b Z3c Z3d Z3e Z3f Z3g Z3h Z3i Z3j Z3k Z3l Z3m Z3n Z3o Z3p Z3q Z3r Z3s Z3t Z3u Z3v Z3w Z3x Z3y Z3z Z40 Z41 Z42 Z43 Z44 Z45 Z46 Z47 Z48 Z49 Z4a Z4b Z4c Z4d Z4e Z4f Z4g Z4h Z4i Z4j Z4k Z4l Z4m Z4n Z4o Z4p Z4q Z4r Z4s Z4t Z4u Z4v Z4w Z4x Z4y Z4z Z50 Z51 Z52 Z53 Z54 Z55 Z56 Z57 Z58 Z59 Z5a Z5b Z5c Z5d Z5e Z5f Z5g Z5h Z5i Z5j Z5k Z5l Z5m Z5n Z5o Z5p Z5q Z5r Z5s Z5t Z5u : Value} (W : World) (OA : Option Addr) (oc no : Nat) (o : List Nat) (x0 : Int) (hno : o.length = no) (hO : Sl 1 icell W W.heap.size OA (bsl o)) (hol : o.length ≤ 1000) (hx0 : x0 = (o.length : Int) - 1) (hcd : (Tryd.f7.body.bind (blockOf 4)) = some cd)
    (hQ : ∀ (y15 y94 y95 y96 y97 y98 y99 y100 y101 y102 y103 y104 : Value) (A : Option Addr) (c : Nat) (W' : World), Below W.heap.size W W' → Sl 1 icell W' W'.heap.size A (bsl o.reverse) → Q .normal ⟨#[Z0, Z1, Z2, Z3, Z4, Z5, Z6, Z7, Z8, Z9, Za, Zb, .slice OA no oc, Zd, .slice A no c, y15, Zg, Zh, Zi, Zj, Zk, Zl, Zm, Zn, Zo, Zp, Zq, Zr, Zs, Zt, Zu, Zv, Zw, Zx, Zy, Zz, Z10, Z11, Z12, Z13, Z14, Z15, Z16, Z17, Z18, Z19, Z1a, Z1b, Z1c, Z1d, Z1e, Z1f, Z1g, Z1h, Z1i, Z1j, Z1k, Z1l, Z1m, Z1n, Z1o, Z1p, Z1q, Z1r, Z1s, Z1t, Z1u, Z1v, Z1w, Z1x, Z1y, Z1z, Z20, Z21, Z22, Z23, Z24, Z25, Z26, Z27, Z28, Z29, Z2a, Z2b, Z2c, Z2d, Z2e, Z2f, Z2g, Z2h, Z2i, Z2j, Z2k, Z2l, y94, y95, y96, y97, y98, y99, y100, y101, y102, y103, y104, Z2x, Z2y, Z2z, Z30, Z31, Z32, Z33, Z34, Z35, Z36, Z37, Z38, Z39, Z3a, Z3b, Z3c, Z3d, Z3e, Z3f, Z3g, Z3h, Z3i, Z3j, Z3k, Z3l, Z3m, Z3n, Z3o, Z3p, Z3q, Z3r, Z3s, Z3t, Z3u, Z3v, Z3w, Z3x, Z3y, Z3z, Z40, Z41, Z42, Z43, Z44, Z45, Z46, Z47, Z48, Z49, Z4a, Z4b, Z4c, Z4d, Z4e, Z4f, Z4g, Z4h, Z4i, Z4j, Z4k, Z4l, Z4m, Z4n, Z4o, Z4p, Z4q, Z4r, Z4s, Z4t, Z4u, Z4v, Z4w, Z4x, Z4y, Z4z, Z50, Z51, Z52, Z53, Z54, Z55, Z56, Z57, Z58, Z59, Z5a, Z5b, Z5c, Z5d, Z5e, Z5f, Z5g, Z5h, Z5i, Z5j, Z5k, Z5l, Z5m, Z5n, Z5o, Z5p, Z5q, Z5r, Z5s, Z5t, Z5u], ds0⟩ W') :
    cd.wp Tryd.prog Q ⟨#[Z0, Z1, Z2, Z3, Z4, Z5, Z6, Z7, Z8, Z9, Za, Zb, .slice OA no oc, Zd, .slice none 0 0, .int .i64 x0, Zg, Zh, Zi, Zj, Zk, Zl, Zm, Zn, Zo, Zp, Zq, Zr, Zs, Zt, Zu, Zv, Zw, Zx, Zy, Zz, Z10, Z11, Z12, Z13, Z14, Z15, Z16, Z17, Z18, Z19, Z1a, Z1b, Z1c, Z1d, Z1e, Z1f, Z1g, Z1h, Z1i, Z1j, Z1k, Z1l, Z1m, Z1n, Z1o, Z1p, Z1q, Z1r, Z1s, Z1t, Z1u, Z1v, Z1w, Z1x, Z1y, Z1z, Z20, Z21, Z22, Z23, Z24, Z25, Z26, Z27, Z28, Z29, Z2a, Z2b, Z2c, Z2d, Z2e, Z2f, Z2g, Z2h, Z2i, Z2j, Z2k, Z2l, Z2m, Z2n, Z2o, Z2p, Z2q, Z2r, Z2s, Z2t, Z2u, Z2v, Z2w, Z2x, Z2y, Z2z, Z30, Z31, Z32, Z33, Z34, Z35, Z36, Z37, Z38, Z39, Z3a, Z3b, Z3c, Z3d, Z3e, Z3f, Z3g, Z3h, Z3i, Z3j, Z3k, Z3l, Z3m, Z3n, Z3o, Z3p, Z3q, Z3r, Z3s, Z3t, Z3u, Z3v, Z3w, Z3x, Z3y, Z3z, Z40, Z41, Z42, Z43, Z44, Z45, Z46, Z47, Z48, Z49, Z4a, Z4b, Z4c, Z4d, Z4e, Z4f, Z4g, Z4h, Z4i, Z4j, Z4k, Z4l, Z4m, Z4n, Z4o, Z4p, Z4q, Z4r, Z4s, Z4t, Z4u, Z4v, Z4w, Z4x, Z4y, Z4z, Z50, Z51, Z52, Z53, Z54, Z55, Z56, Z57, Z58, Z59, Z5a, Z5b, Z5c, Z5d, Z5e, Z5f, Z5g, Z5h, Z5i, Z5j, Z5k, Z5l, Z5m, Z5n, Z5o, Z5p, Z5q, Z5r, Z5s, Z5t, Z5u], ds0⟩ W := by
  rw [show (Tryd.f7.body.bind (blockOf 4)) = some (Code.block 4 _) from rfl] at hcd
  obtain rfl := Option.some.inj hcd
  clear hcd
  have HQ := Lib.hid hQ
  clear hQ
  refine wp_block ?_
  subst hno
  obtain ⟨i0, hi, hz0, hz1, hz2⟩ := info_parts intInfoD
  have Hi := Lib.hid hi; have Hz0 := Lib.hid hz0; have Hz1 := Lib.hid hz1; have Hz2 := Lib.hid hz2
  clear hi hz0 hz1 hz2
  refine wp_loop_mrg [14, 15, 94, 95, 96, 97, 98, 99, 100, 101, 102, 103, 104] (fun mm f ds W1 => ds = ds0 ∧ ∃ (r : Nat) (x : Int), f 15 = .int .i64 x ∧ x = (r : Int) - 1 ∧ r = mm ∧ r ≤ o.length ∧ Below W.heap.size W W1 ∧ W1.ownsRow W.heap.size 3 1 (f 14) (o.length - r) (flat 1 icell (bsl (o.drop r).reverse))) o.length ⟨rfl, o.length, x0, rfl, hx0, rfl, Nat.le_refl _, Below.refl _ _, by rw [Nat.sub_self, List.drop_length]; exact own_nil _ _ _ 1 icell⟩ ?_
  intro c3' T3' hc2 hT2
  rintro mm f ds W1 ⟨rfl, r, x, hf15, hx, rfl, hr, hb1, own1⟩
  replace hc2 := hc2.out
  subst hc2
  replace hT2 := hT2.out
  subst hT2
  generalize hF : mrgF _ 0 _ _ = F
  simp only [mrg_hit, mrg_miss, mrg_end, Nat.reduceBEq, Nat.reduceAdd] at hF
  rw [hf15] at hF
  subst hF
  clear hf15
  generalize f 14 = vO at *
  cases r with
  | succ j =>
    obtain rfl : x = (j : Int) := by omega
    have x0' : (0 : Int) ≤ (j : Int) := by omega
    have x1' : (j : Int) < (o.length : Int) := by omega
    have q0 : decide ((0 : Int) ≤ (j : Int)) = true := decide_eq_true x0'
    have hjo : j < o.length := by omega
    obtain ⟨la, hla, hlb, a0⟩ := ((hO.below hb1).more hb1.size).nat_at hjo
    have HN : Hid ((o.drop j).reverse = (o.drop (j + 1)).reverse ++ [o[j]]) := Lib.hid (by rw [List.drop_eq_getElem_cons hjo, List.reverse_cons])
    obtain ⟨v, hv⟩ : ∃ v, o[j] = v := ⟨_, rfl⟩
    rw [hv] at a0 HN
    have hsz := hb1.size
    have HL : Hid (o.length - j = o.length - (j + 1) + 1) := Lib.hid (by omega)
    clear hv hx
    obtain rfl := hla
    go_wp2_with (at_builtin; go_loud (
      refine wpList_push (w0 := W) (cell := icell) (y := ((v : Nat) : Int)) rfl _ _ _ rfl W.heap.size W.heap.size 3 i0 _ 8 Tryd.underlying31 Hi.out Hz0.out Hz1.out Hz2.out rfl (by decide) _ _ _ rfl own1 _ _ rfl _ rfl (fun _ => rfl) (by unfold maxLen; omega) (by omega) hsz (Nat.le_refl _) hb1 ?_
      intro v8 w8 hown8 hb8 _))
    exact ⟨rfl, j, by omega, j, (j : Int) - 1, rfl, rfl, rfl, by omega, by rw [HN.out, HL.out, bsl_snoc]; exact hown8⟩
  | zero =>
    have q0 : decide ((0 : Int) ≤ x) = false := decide_eq_false (by omega)
    clear hx
    rw [List.drop_zero, Nat.sub_zero] at own1
    have hlr : o.length = (bsl o.reverse).length := by rw [bsl_len, List.length_reverse]
    rw [hlr] at own1
    obtain ⟨A9, c9, rfl, hS9⟩ := own_slice (by decide) own1
    rw [← hlr]
    clear hlr own1
    go_wp2_with fail
    exact HQ.out _ _ _ _ _ _ _ _ _ _ _ _ A9 c9 _ hb1 hS9
set_option maxHeartbeats 64000000 in
theorem th_l4 {Q : Exit → Act → World → Prop} {cd : Code} {ds0 : List Deferred} {Z1 Z2 Z3 Z4 Z5 Z6 Z7 Z8 Z9 Za Zb Zc Ze Zf Zh Zj Zk Zl Zm Zn Zo Zp Zq Zr Zs Zt Zu Zv Zw Zx Zy Zz Z10 Z11 Z12 Z13 Z14 Z15 Z16 Z17 Z18 Z19 Z1a Z1b Z1c Z1d Z1e Z1f Z1g Z1h Z1i Z1j Z1k Z1l Z1m Z1n Z1o Z1p Z1q Z1r Z1s Z1t Z1u Z1v Z1w Z1x Z1y Z1z Z20 Z21 Z22 Z23 Z24 Z25 Z26 Z27 Z28 Z29 Z2a Z2b Z2c Z2d Z2e Z2f Z2g Z2h Z2i Z2j Z2k Z2l Z2m Z2n Z2o Z2p Z2q Z2r Z2s Z2t Z2u Z2v Z2w Z2x Z2y Z2z Z30 Z31 Z32 Z33 Z34 Z35 Z36 Z37 Z38 Z39 Z3a Z3b Z3c Z3d Z3e Z3f Z3g Z3h Z3i Z3j Z3k Z3l Z3m Z3n Z3o Z3p Z3q Z3r Z3s Z3t Z3u Z3v Z3w Z3x Z3y Z3z Z40 Z41 Z42 Z43 Z44 Z45 Z46 Z47 Z48 Z49 Z4a Z4b Z4c Z4d Z4e Z4f Z4g Z4h Z4i Z4j Z4k Z4l Z4m Z4n Z4o Z4p Z4q Z4r Z4s Z4t Z4u Z4v Z4w Z4x Z4y Z4z Z50 Z51 Z52 Z53 Z54 Z55 Z56 Z57 Z58 Z59 Z5a Z5b Z5c Z5d Z5e Z5f Z5g Z5h Z5i Z5j Z5k Z5l Z5m Z5n Z5o Z5p Z5q Z5r Z5s Z5t Z5u : Value} (W : World) (CA : Option Addr) (cc n d : Nat) (f : Nat → Nat) (hC : Sl 1 icell W W.heap.size CA (nfl n f)) (hn : n ≤ 1000) (hd : ∀ x, f x ≤ d) (hcd : (Tryd.f7.body.bind (blockOf 6)) = some cd)
    (hQ : ∀ (y18 y119 y120 y121 y122 y123 y124 y125 y126 y127 y128 y129 y130 y131 y132 y133 y134 y135 y136 : Value) (W' : World), W = W' → Q .normal ⟨#[.int .i64 (n : Nat), Z1, Z2, Z3, Z4, Z5, Z6, Z7, Z8, Z9, Za, Zb, Zc, .int .i64 (d : Nat), Ze, Zf, .slice CA n cc, Zh, y18, Zj, Zk, Zl, Zm, Zn, Zo, Zp, Zq, Zr, Zs, Zt, Zu, Zv, Zw, Zx, Zy, Zz, Z10, Z11, Z12, Z13, Z14, Z15, Z16, Z17, Z18, Z19, Z1a, Z1b, Z1c, Z1d, Z1e, Z1f, Z1g, Z1h, Z1i, Z1j, Z1k, Z1l, Z1m, Z1n, Z1o, Z1p, Z1q, Z1r, Z1s, Z1t, Z1u, Z1v, Z1w, Z1x, Z1y, Z1z, Z20, Z21, Z22, Z23, Z24, Z25, Z26, Z27, Z28, Z29, Z2a, Z2b, Z2c, Z2d, Z2e, Z2f, Z2g, Z2h, Z2i, Z2j, Z2k, Z2l, Z2m, Z2n, Z2o, Z2p, Z2q, Z2r, Z2s, Z2t, Z2u, Z2v, Z2w, Z2x, Z2y, Z2z, Z30, Z31, Z32, Z33, Z34, Z35, Z36, Z37, Z38, Z39, Z3a, y119, y120, y121, y122, y123, y124, y125, y126, y127, y128, y129, y130, y131, y132, y133, y134, y135, y136, Z3t, Z3u, Z3v, Z3w, Z3x, Z3y, Z3z, Z40, Z41, Z42, Z43, Z44, Z45, Z46, Z47, Z48, Z49, Z4a, Z4b, Z4c, Z4d, Z4e, Z4f, Z4g, Z4h, Z4i, Z4j, Z4k, Z4l, Z4m, Z4n, Z4o, Z4p, Z4q, Z4r, Z4s, Z4t, Z4u, Z4v, Z4w, Z4x, Z4y, Z4z, Z50, Z51, Z52, Z53, Z54, Z55, Z56, Z57, Z58, Z59, Z5a, Z5b, Z5c, Z5d, Z5e, Z5f, Z5g, Z5h, Z5i, Z5j, Z5k, Z5l, Z5m, Z5n, Z5o, Z5p, Z5q, Z5r, Z5s, Z5t, Z5u], ds0⟩ W') :
    cd.wp Tryd.prog Q ⟨#[.int .i64 (n : Nat), Z1, Z2, Z3, Z4, Z5, Z6, Z7, Z8, Z9, Za, Zb, Zc, .int .i64 (d : Nat), Ze, Zf, .slice CA n cc, Zh, .int .i64 0, Zj, Zk, Zl, Zm, Zn, Zo, Zp, Zq, Zr, Zs, Zt, Zu, Zv, Zw, Zx, Zy, Zz, Z10, Z11, Z12, Z13, Z14, Z15, Z16, Z17, Z18, Z19, Z1a, Z1b, Z1c, Z1d, Z1e, Z1f, Z1g, Z1h, Z1i, Z1j, Z1k, Z1l, Z1m, Z1n, Z1o, Z1p, Z1q, Z1r, Z1s, Z1t, Z1u, Z1v, Z1w, Z1x, Z1y, Z1z, Z20, Z21, Z22, Z23, Z24, Z25, Z26, Z27, Z28, Z29, Z2a, Z2b, Z2c, Z2d, Z2e, Z2f, Z2g, Z2h, Z2i, Z2j, Z2k, Z2l, Z2m, Z2n, Z2o, Z2p, Z2q, Z2r, Z2s, Z2t, Z2u, Z2v, Z2w, Z2x, Z2y, Z2z, Z30, Z31, Z32, Z33, Z34, Z35, Z36, Z37, Z38, Z39, Z3a, Z3b, Z3c, Z3d, Z3e, Z3f, Z3g, Z3h, Z3i, Z3j, Z3k, Z3l, Z3m, Z3n, Z3o, Z3p, Z3q, Z3r, Z3s, Z3t, Z3u, Z3v, Z3w, Z3x, Z3y, Z3z, Z40, Z41, Z42, Z43, Z44, Z45, Z46, Z47, Z48, Z49, Z4a, Z4b, Z4c, Z4d, Z4e, Z4f, Z4g, Z4h, Z4i, Z4j, Z4k, Z4l, Z4m, Z4n, Z4o, Z4p, Z4q, Z4r, Z4s, Z4t, Z4u, Z4v, Z4w, Z4x, Z4y, Z4z, Z50, Z51, Z52, Z53, Z54, Z55, Z56, Z57, Z58, Z59, Z5a, Z5b, Z5c, Z5d, Z5e, Z5f, Z5g, Z5h, Z5i, Z5j, Z5k, Z5l, Z5m, Z5n, Z5o, Z5p, Z5q, Z5r, Z5s, Z5t, Z5u], ds0⟩ W := by
  rw [show (Tryd.f7.body.bind (blockOf 6)) = some (Code.block 6 _) from rfl] at hcd
  obtain rfl := Option.some.inj hcd
  clear hcd
  have HQ := Lib.hid hQ
  clear hQ
  refine wp_block ?_
  have HD := Lib.hid hd
  clear hd
  refine wp_loop_mrg [18, 119, 120, 121, 122, 123, 124, 125, 126, 127, 128, 129, 130, 131, 132, 133, 134, 135, 136] (fun mm f' ds W1 => ds = ds0 ∧ ∃ (v : Nat), f' 18 = .int .i64 v ∧ n - v = mm ∧ v ≤ n ∧ W1 = W) n ⟨rfl, 0, rfl, rfl, Nat.zero_le _, rfl⟩ ?_
  intro c4' T4' hc2 hT2
  rintro mm f' ds W1 ⟨rfl, v, hf18, rfl, hv, rfl⟩
  replace hc2 := hc2.out
  subst hc2
  replace hT2 := hT2.out
  subst hT2
  generalize hF : mrgF _ 0 _ _ = F
  simp only [mrg_hit, mrg_miss, mrg_end, Nat.reduceBEq, Nat.reduceAdd] at hF
  rw [hf18] at hF
  subst hF
  clear hf18
  by_cases hlt : v < n
  · have x0 : (0 : Int) ≤ (v : Int) := by omega
    have x1 : (v : Int) < (n : Int) := by omega
    have q0 : decide ((v : Int) < (n : Int)) = true := decide_eq_true x1
    obtain ⟨la, hla, hlb, a0⟩ := hC.int_at (k := v) (by rw [nfl_len]; exact hlt)
    rw [nfl_at] at a0
    have hfd := HD.out v
    generalize f v = fv at *
    have q1 : decide ((fv : Int) < 0) = false := decide_eq_false (by omega)
    have q2 : decide ((d : Int) < (fv : Int)) = false := decide_eq_false (by omega)
    have hund : undef = Value.tuple #[] := rfl
    obtain rfl := hla
    go_wp2_with fail
    exact ⟨rfl, n - (v + 1), by omega, v + 1, rfl, rfl, hlt⟩
  · obtain rfl : v = n := by omega
    have q0 : decide ((v : Int) < (v : Int)) = false := decide_eq_false (by omega)
    go_wp2_with fail
    exact HQ.out _ _ _ _ _ _ _ _ _ _ _ _ _ _ _ _ _ _ _ _ rfl
set_option maxHeartbeats 64000000 in
theorem th_l5 {Q : Exit → Act → World → Prop} {cd : Code} {ds0 : List Deferred} {Z0 Z1 Z2 Z3 Z4 Z5 Z7 Z8 Z9 Za Zb Zc Zd Ze Zf Zh Zi Zk Zl Zm Zn Zo Zp Zq Zr Zs Zt Zu Zv Zw Zx Zy Zz Z10 Z11 Z12 Z13 Z14 Z15 Z16 Z17 Z18 Z19 Z1a Z1b Z1c Z1d Z1e Z1f Z1g Z1h Z1i Z1j Z1k Z1l Z1m Z1n Z1o Z1p Z1q Z1r Z1s Z1t Z1u Z1v Z1w Z1x Z1y Z1z Z20 Z21 Z22 Z23 Z24 Z25 Z26 Z27 Z28 Z29 Z2a Z2b Z2c Z2d Z2e Z2f Z2g Z2h Z2i Z2j Z2k Z2l Z2m Z2n Z2o Z2p Z2q Z2r Z2s Z2t Z2u Z2v Z2w Z2x Z2y Z2z Z30 Z31 Z32 Z33 Z34 Z35 Z36 Z37 Z38 Z39 Z3a Z3b Z3c Z3d Z3e Z3f Z3g Z3h Z3i Z3j Z3k Z3l Z3m Z3n Z3o Z3p Z3q Z3r Z3s Z3t Z3u Z3v Z3w Z3x Z3y Z3z Z40 Z41 Z42 Z43 Z44 Z45 Z46 Z47 Z48 Z49 Z4a Z4b Z4c Z4d Z4e Z4f Z4g Z4h Z4i Z4j Z4k Z4l Z4m Z4n Z4o Z4p Z4q Z4r Z4s Z4t Z4u Z4v Z4w Z4x Z4y Z4z Z50 Z51 Z52 Z53 Z54 Z55 Z56 Z57 Z58 Z59 Z5a Z5b Z5c Z5d Z5e Z5f Z5g Z5h Z5i Z5j Z5k Z5l Z5m Z5n Z5o Z5p Z5q Z5r Z5s Z5t Z5u : Value} (W : World) (EA : Option Addr) (ec : Nat) (E : List Ge.Ed) (CA : Option Addr) (cc n : Nat) (f : Nat → Nat) (hE : Sl 2 ecell W W.heap.size EA E) (hEl : E.length ≤ 1000) (hC : Sl 1 icell W W.heap.size CA (nfl n f)) (hlt : ∀ e ∈ E, e.1 < n ∧ e.2 < n ∧ f e.1 ≠ f e.2) (hcd : (Tryd.f7.body.bind (blockOf 8)) = some cd)
    (hQ : ∀ (y19 y137 y138 y139 y140 y141 y142 y143 y144 y145 y146 y147 y148 y149 y150 y151 y152 y153 y154 y155 y156 y157 y158 y159 : Value) (W' : World), Below W.heap.size W W' → Q .normal ⟨#[Z0, Z1, Z2, Z3, Z4, Z5, .slice EA E.length ec, Z7, Z8, Z9, Za, Zb, Zc, Zd, Ze, Zf, .slice CA n cc, Zh, Zi, y19, Zk, Zl, Zm, Zn, Zo, Zp, Zq, Zr, Zs, Zt, Zu, Zv, Zw, Zx, Zy, Zz, Z10, Z11, Z12, Z13, Z14, Z15, Z16, Z17, Z18, Z19, Z1a, Z1b, Z1c, Z1d, Z1e, Z1f, Z1g, Z1h, Z1i, Z1j, Z1k, Z1l, Z1m, Z1n, Z1o, Z1p, Z1q, Z1r, Z1s, Z1t, Z1u, Z1v, Z1w, Z1x, Z1y, Z1z, Z20, Z21, Z22, Z23, Z24, Z25, Z26, Z27, Z28, Z29, Z2a, Z2b, Z2c, Z2d, Z2e, Z2f, Z2g, Z2h, Z2i, Z2j, Z2k, Z2l, Z2m, Z2n, Z2o, Z2p, Z2q, Z2r, Z2s, Z2t, Z2u, Z2v, Z2w, Z2x, Z2y, Z2z, Z30, Z31, Z32, Z33, Z34, Z35, Z36, Z37, Z38, Z39, Z3a, Z3b, Z3c, Z3d, Z3e, Z3f, Z3g, Z3h, Z3i, Z3j, Z3k, Z3l, Z3m, Z3n, Z3o, Z3p, Z3q, Z3r, Z3s, y137, y138, y139, y140, y141, y142, y143, y144, y145, y146, y147, y148, y149, y150, y151, y152, y153, y154, y155, y156, y157, y158, y159, Z4g, Z4h, Z4i, Z4j, Z4k, Z4l, Z4m, Z4n, Z4o, Z4p, Z4q, Z4r, Z4s, Z4t, Z4u, Z4v, Z4w, Z4x, Z4y, Z4z, Z50, Z51, Z52, Z53, Z54, Z55, Z56, Z57, Z58, Z59, Z5a, Z5b, Z5c, Z5d, Z5e, Z5f, Z5g, Z5h, Z5i, Z5j, Z5k, Z5l, Z5m, Z5n, Z5o, Z5p, Z5q, Z5r, Z5s, Z5t, Z5u], ds0⟩ W') :
    cd.wp Tryd.prog Q ⟨#[Z0, Z1, Z2, Z3, Z4, Z5, .slice EA E.length ec, Z7, Z8, Z9, Za, Zb, Zc, Zd, Ze, Zf, .slice CA n cc, Zh, Zi, .int .i64 0, Zk, Zl, Zm, Zn, Zo, Zp, Zq, Zr, Zs, Zt, Zu, Zv, Zw, Zx, Zy, Zz, Z10, Z11, Z12, Z13, Z14, Z15, Z16, Z17, Z18, Z19, Z1a, Z1b, Z1c, Z1d, Z1e, Z1f, Z1g, Z1h, Z1i, Z1j, Z1k, Z1l, Z1m, Z1n, Z1o, Z1p, Z1q, Z1r, Z1s, Z1t, Z1u, Z1v, Z1w, Z1x, Z1y, Z1z, Z20, Z21, Z22, Z23, Z24, Z25, Z26, Z27, Z28, Z29, Z2a, Z2b, Z2c, Z2d, Z2e, Z2f, Z2g, Z2h, Z2i, Z2j, Z2k, Z2l, Z2m, Z2n, Z2o, Z2p, Z2q, Z2r, Z2s, Z2t, Z2u, Z2v, Z2w, Z2x, Z2y, Z2z, Z30, Z31, Z32, Z33, Z34, Z35, Z36, Z37, Z38, Z39, Z3a, Z3b, Z3c, Z3d, Z3e, Z3f, Z3g, Z3h, Z3i, Z3j, Z3k, Z3l, Z3m, Z3n, Z3o, Z3p, Z3q, Z3r, Z3s, Z3t, Z3u, Z3v, Z3w, Z3x, Z3y, Z3z, Z40, Z41, Z42, Z43, Z44, Z45, Z46, Z47, Z48, Z49, Z4a, Z4b, Z4c, Z4d, Z4e, Z4f, Z4g, Z4h, Z4i, Z4j, Z4k, Z4l, Z4m, Z4n, Z4o, Z4p, Z4q, Z4r, Z4s, Z4t, Z4u, Z4v, Z4w, Z4x, Z4y, Z4z, Z50, Z51, Z52, Z53, Z54, Z55, Z56, Z57, Z58, Z59, Z5a, Z5b, Z5c, Z5d, Z5e, Z5f, Z5g, Z5h, Z5i, Z5j, Z5k, Z5l, Z5m, Z5n, Z5o, Z5p, Z5q, Z5r, Z5s, Z5t, Z5u], ds0⟩ W := by
  rw [show (Tryd.f7.body.bind (blockOf 8)) = some (Code.block 8 _) from rfl] at hcd
  obtain rfl := Option.some.inj hcd
  clear hcd
  have HQ := Lib.hid hQ
  clear hQ
  refine wp_block ?_
  have HLT := Lib.hid hlt
  clear hlt
  refine wp_loop_mrg [19, 137, 138, 139, 140, 141, 142, 143, 144, 145, 146, 147, 148, 149, 150, 151, 152, 153, 154, 155, 156, 157, 158, 159] (fun mm f' ds W1 => ds = ds0 ∧ ∃ (i : Nat), f' 19 = .int .i64 i ∧ E.length - i = mm ∧ i ≤ E.length ∧ Below W.heap.size W W1) E.length ⟨rfl, 0, rfl, rfl, Nat.zero_le _, Below.refl _ _⟩ ?_
  intro c5' T5' hc2 hT2
  rintro mm f' ds W1 ⟨rfl, i, hf19, rfl, hi, hb1⟩
  replace hc2 := hc2.out
  subst hc2
  replace hT2 := hT2.out
  subst hT2
  generalize hF : mrgF _ 0 _ _ = F
  simp only [mrg_hit, mrg_miss, mrg_end, Nat.reduceBEq, Nat.reduceAdd] at hF
  rw [hf19] at hF
  subst hF
  clear hf19
  have hs1 := hb1.size
  by_cases hil : i < E.length
  · have x0 : (0 : Int) ≤ (i : Int) := by omega
    have x1 : (i : Int) < (E.length : Int) := by omega
    have q0 : decide ((i : Int) < (E.length : Int)) = true := decide_eq_true x1
    obtain ⟨h1, h2, h3⟩ := HLT.out _ (List.getElem_mem hil)
    obtain ⟨la, hla, hlb, a0, a1⟩ := ((hE.below hb1).more hs1).edge_at hil
    generalize E[i] = ed at *
    obtain ⟨a, b⟩ := ed
    dsimp only at h1 h2 h3 a0 a1
    obtain ⟨ca, hca, hcb, c0⟩ := ((hC.below hb1).more hs1).int_at (k := a) (by rw [nfl_len]; exact h1)
    obtain ⟨ca2, hca2, hcb2, c1⟩ := ((hC.below hb1).more hs1).int_at (k := b) (by rw [nfl_len]; exact h2)
    obtain rfl := hca
    obtain rfl := Option.some.inj hca2
    rw [nfl_at] at c0 c1
    have hcl1 : (ca.add a).block < W1.heap.size := by rw [add_block]; exact hcb
    have hcl2 : (ca.add b).block < W1.heap.size := by rw [add_block]; exact hcb
    generalize f a = fa at *
    generalize f b = fb at *
    have qe : ((fa : Int) == (fb : Int)) = false := by simpa using (by omega : ¬ (fa : Int) = (fb : Int))
    have y0 : (0 : Int) ≤ (a : Int) := by omega
    have y1 : (a : Int) < (n : Int) := by omega
    have y2 : (0 : Int) ≤ (b : Int) := by omega
    have y3 : (b : Int) < (n : Int) := by omega
    obtain rfl := hla
    clear h3
    go_wp2_with fail
    refine wp_region_kept W1.heap.size W1 (by kernel_rfl) (by kernel_rfl) (Below.refl _ _) ?_
    repeat (go_big_quiet_step (fail))
    refine wpQuiet_nil ?_
    rintro w5 ⟨⟨_, hb5⟩, rfl⟩
    have hb6 := hb1.trans (hb5.mono hs1)
    go_wp2_with fail
    first | exact ⟨_, rfl, rfl, E.length - (i + 1), by omega, by trivial, i + 1, rfl, rfl, hil, hb6⟩ | exact ⟨E.length - (i + 1), by omega, by trivial, i + 1, rfl, rfl, hil, hb6⟩
  · obtain rfl : i = E.length := by omega
    have q0 : decide ((E.length : Int) < (E.length : Int)) = false := decide_eq_false (by omega)
    go_wp2_with fail
    exact HQ.out _ _ _ _ _ _ _ _ _ _ _ _ _ _ _ _ _ _ _ _ _ _ _ _ _ hb1
set_option maxHeartbeats 64000000 in
theorem th_l6 {Q : Exit → Act → World → Prop} {cd : Code} {ds0 : List Deferred} {Z0 Z1 Z2 Z3 Z4 Z6 Z7 Z8 Z9 Za Zb Zc Zd Ze Zf Zg Zh Zi Zj Zm Zn Zo Zp Zq Zr Zs Zt Zu Zv Zw Zx Zy Zz Z10 Z11 Z12 Z13 Z14 Z15 Z16 Z17 Z18 Z19 Z1a Z1b Z1c Z1d Z1e Z1f Z1g Z1h Z1i Z1j Z1k Z1l Z1m Z1n Z1o Z1p Z1q Z1r Z1s Z1t Z1u Z1v Z1w Z1x Z1y Z1z Z20 Z21 Z22 Z23 Z24 Z25 Z26 Z27 Z28 Z29 Z2a Z2b Z2c Z2d Z2e Z2f Z2g Z2h Z2i Z2j Z2k Z2l Z2m Z2n Z2o Z2p Z2q Z2r Z2s Z2t Z2u Z2v Z2w Z2x Z2y Z2z Z30 Z31 Z32 Z33 Z34 Z35 Z36 Z37 Z38 Z39 Z3a Z3b Z3c Z3d Z3e Z3f Z3g Z3h Z3i Z3j Z3k Z3l Z3m Z3n Z3o Z3p Z3q Z3r Z3s Z3t Z3u Z3v Z3w Z3x Z3y Z3z Z40 Z41 Z42 Z43 Z44 Z45 Z46 Z47 Z48 Z49 Z4a Z4b Z4c Z4d Z4e Z4f Z4g Z4h Z4i Z4j Z4k Z4l Z4m Z4n Z4o Z4p Z4q Z4r Z4s Z4t Z4u Z4v Z4w Z4x Z4y Z4z Z50 Z51 Z52 Z53 Z54 Z55 Z56 Z57 Z58 Z59 Z5a Z5b Z5c Z5d Z5e Z5f Z5g Z5h Z5i Z5j Z5k Z5l Z5m Z5n Z5o Z5p Z5q Z5r Z5s Z5t Z5u : Value} (W : World) (bg : Nat) (A : Option Addr) (c : Nat) (R : List Nat) (edges : Int) (QA : Option Addr) (qc : Nat) (q : List Nat) (hg : GG W bg A c R edges) (hQ2 : Sl 1 icell W W.heap.size QA (bsl q)) (hql : q.length ≤ 1000) (hq : ∀ x ∈ q, x < R.length ∧ x < 512) (hpw : ∀ i k (hi : i < q.length) (hk : k < i), (Dg.row R q[i]).testBit (q[k]'(by omega)) = true ∧ q[k]'(by omega) < q[i]) (hcd : (Tryd.f7.body.bind (blockOf 10)) = some cd)
    (hQ : ∀ (y21 y22 y162 y163 y164 y165 y166 y167 y168 y169 y170 y171 y172 y173 y174 y175 y176 y177 y178 y179 y180 y181 y182 y183 y184 y185 y186 y187 y188 y189 y190 y191 y192 y193 y194 : Value) (W' : World), Below W.heap.size W W' → Q .normal ⟨#[Z0, Z1, Z2, Z3, Z4, gp bg, Z6, Z7, Z8, Z9, Za, Zb, Zc, Zd, Ze, Zf, Zg, Zh, Zi, Zj, .slice QA q.length qc, y21, y22, Zn, Zo, Zp, Zq, Zr, Zs, Zt, Zu, Zv, Zw, Zx, Zy, Zz, Z10, Z11, Z12, Z13, Z14, Z15, Z16, Z17, Z18, Z19, Z1a, Z1b, Z1c, Z1d, Z1e, Z1f, Z1g, Z1h, Z1i, Z1j, Z1k, Z1l, Z1m, Z1n, Z1o, Z1p, Z1q, Z1r, Z1s, Z1t, Z1u, Z1v, Z1w, Z1x, Z1y, Z1z, Z20, Z21, Z22, Z23, Z24, Z25, Z26, Z27, Z28, Z29, Z2a, Z2b, Z2c, Z2d, Z2e, Z2f, Z2g, Z2h, Z2i, Z2j, Z2k, Z2l, Z2m, Z2n, Z2o, Z2p, Z2q, Z2r, Z2s, Z2t, Z2u, Z2v, Z2w, Z2x, Z2y, Z2z, Z30, Z31, Z32, Z33, Z34, Z35, Z36, Z37, Z38, Z39, Z3a, Z3b, Z3c, Z3d, Z3e, Z3f, Z3g, Z3h, Z3i, Z3j, Z3k, Z3l, Z3m, Z3n, Z3o, Z3p, Z3q, Z3r, Z3s, Z3t, Z3u, Z3v, Z3w, Z3x, Z3y, Z3z, Z40, Z41, Z42, Z43, Z44, Z45, Z46, Z47, Z48, Z49, Z4a, Z4b, Z4c, Z4d, Z4e, Z4f, Z4g, Z4h, y162, y163, y164, y165, y166, y167, y168, y169, y170, y171, y172, y173, y174, y175, y176, y177, y178, y179, y180, y181, y182, y183, y184, y185, y186, y187, y188, y189, y190, y191, y192, y193, y194, Z5f, Z5g, Z5h, Z5i, Z5j, Z5k, Z5l, Z5m, Z5n, Z5o, Z5p, Z5q, Z5r, Z5s, Z5t, Z5u], ds0⟩ W') :
    cd.wp Tryd.prog Q ⟨#[Z0, Z1, Z2, Z3, Z4, gp bg, Z6, Z7, Z8, Z9, Za, Zb, Zc, Zd, Ze, Zf, Zg, Zh, Zi, Zj, .slice QA q.length qc, .int .i64 0, Zm, Zn, Zo, Zp, Zq, Zr, Zs, Zt, Zu, Zv, Zw, Zx, Zy, Zz, Z10, Z11, Z12, Z13, Z14, Z15, Z16, Z17, Z18, Z19, Z1a, Z1b, Z1c, Z1d, Z1e, Z1f, Z1g, Z1h, Z1i, Z1j, Z1k, Z1l, Z1m, Z1n, Z1o, Z1p, Z1q, Z1r, Z1s, Z1t, Z1u, Z1v, Z1w, Z1x, Z1y, Z1z, Z20, Z21, Z22, Z23, Z24, Z25, Z26, Z27, Z28, Z29, Z2a, Z2b, Z2c, Z2d, Z2e, Z2f, Z2g, Z2h, Z2i, Z2j, Z2k, Z2l, Z2m, Z2n, Z2o, Z2p, Z2q, Z2r, Z2s, Z2t, Z2u, Z2v, Z2w, Z2x, Z2y, Z2z, Z30, Z31, Z32, Z33, Z34, Z35, Z36, Z37, Z38, Z39, Z3a, Z3b, Z3c, Z3d, Z3e, Z3f, Z3g, Z3h, Z3i, Z3j, Z3k, Z3l, Z3m, Z3n, Z3o, Z3p, Z3q, Z3r, Z3s, Z3t, Z3u, Z3v, Z3w, Z3x, Z3y, Z3z, Z40, Z41, Z42, Z43, Z44, Z45, Z46, Z47, Z48, Z49, Z4a, Z4b, Z4c, Z4d, Z4e, Z4f, Z4g, Z4h, Z4i, Z4j, Z4k, Z4l, Z4m, Z4n, Z4o, Z4p, Z4q, Z4r, Z4s, Z4t, Z4u, Z4v, Z4w, Z4x, Z4y, Z4z, Z50, Z51, Z52, Z53, Z54, Z55, Z56, Z57, Z58, Z59, Z5a, Z5b, Z5c, Z5d, Z5e, Z5f, Z5g, Z5h, Z5i, Z5j, Z5k, Z5l, Z5m, Z5n, Z5o, Z5p, Z5q, Z5r, Z5s, Z5t, Z5u], ds0⟩ W := by
  rw [show (Tryd.f7.body.bind (blockOf 10)) = some (Code.block 10 _) from rfl] at hcd
  obtain rfl := Option.some.inj hcd
  clear hcd
  have HQ := Lib.hid hQ
  clear hQ
  refine wp_block ?_
  have HQQ := Lib.hid hq
  have HPW := Lib.hid hpw
  clear hq hpw
  refine wp_loop_mrg [21, 22, 162, 163, 164, 165, 166, 167, 168, 169, 170, 171, 172, 173, 174, 175, 176, 177, 178, 179, 180, 181, 182, 183, 184, 185, 186, 187, 188, 189, 190, 191, 192, 193, 194] (fun mm f ds W1 => ds = ds0 ∧ ∃ (i : Nat), f 21 = .int .i64 i ∧ q.length - i = mm ∧ i ≤ q.length ∧ Below W.heap.size W W1) q.length ⟨rfl, 0, rfl, rfl, Nat.zero_le _, Below.refl _ _⟩ ?_
  intro c6' T6' hc2 hT2
  rintro mm f ds W1 ⟨rfl, i, hf21, rfl, hi, hb1⟩
  replace hc2 := hc2.out
  subst hc2
  replace hT2 := hT2.out
  subst hT2
  generalize hF : mrgF _ 0 _ _ = F
  simp only [mrg_hit, mrg_miss, mrg_end, Nat.reduceBEq, Nat.reduceAdd] at hF
  rw [hf21] at hF
  subst hF
  clear hf21
  by_cases hil : i < q.length
  · have x0 : (0 : Int) ≤ (i : Int) := by omega
    have x1 : (i : Int) < (q.length : Int) := by omega
    have q0 : decide ((i : Int) < (q.length : Int)) = true := decide_eq_true x1
    refine wp_seq_k ?_
    intro Ka hKa
    have HKa := Lib.hid hKa
    clear hKa
    go_wp2_with fail
    refine HKa.out _ _ ?_
    clear HKa
    refine wp_seq_k ?_
    intro Kb hKb
    have HKb := Lib.hid hKb
    clear hKb
    refine wp_block ?_
    refine wp_seq_k ?_
    intro Kc hKc
    have HKc := Lib.hid hKc
    clear hKc
    go_wp2_with fail
    refine HKc.out _ _ ?_
    clear HKc
    refine wp_block ?_
    refine wp_loop_mrg [22, 168, 169, 170, 171, 172, 173, 174, 175, 176, 177, 178, 179, 180, 181, 182, 183, 184, 185, 186, 187, 188, 189, 190, 191, 192, 193, 194] (fun mm f dsx W2 => dsx = ds ∧ ∃ (k : Nat), f 22 = .int .i64 k ∧ i - k = mm ∧ k ≤ i ∧ Below W.heap.size W W2) i ⟨rfl, 0, rfl, rfl, Nat.zero_le _, hb1⟩ ?_
    intro c7' T7' hc2 hT2
    rintro mm f dsx W2 ⟨rfl, k, hf22, rfl, hk, hb2⟩
    replace hc2 := hc2.out
    subst hc2
    replace hT2 := hT2.out
    subst hT2
    generalize hF : mrgF _ 0 _ _ = F
    simp only [mrg_hit, mrg_miss, mrg_end, Nat.reduceBEq, Nat.reduceAdd] at hF
    rw [hf22] at hF
    subst hF
    clear hf22
    have hs2 := hb2.size
    by_cases hkl : k < i
    · have y0 : (0 : Int) ≤ (k : Int) := by omega
      have y1 : (k : Int) < (i : Int) := by omega
      have y2 : (k : Int) < (q.length : Int) := by omega
      have q1 : decide ((k : Int) < (i : Int)) = true := decide_eq_true y1
      have hkq : k < q.length := by omega
      obtain ⟨la, hla, hlb, a0⟩ := ((hQ2.below hb2).more hs2).nat_at hil
      obtain ⟨la2, hla2, -, a1⟩ := ((hQ2.below hb2).more hs2).nat_at hkq
      obtain rfl := hla
      obtain rfl := Option.some.inj hla2
      have hl1 : (la.add i).block < W2.heap.size := by rw [add_block]; exact hlb
      have hl2 : (la.add k).block < W2.heap.size := by rw [add_block]; exact hlb
      obtain ⟨hp1, hp2⟩ := HPW.out i k hil hkl
      have hx := HQQ.out _ (List.getElem_mem hil)
      have hy := HQQ.out _ (List.getElem_mem hkq)
      generalize q[i] = x at *
      generalize q[k] = y at *
      have KH : Hid (∀ u : Kept W2.heap.size W2, Calls Tryd.prog 28 #[gp bg, .int .i64 x, .int .i64 y] u.val fun e w' => e = .returned (.bool true) ∧ Below u.val.heap.size u.val w') := Lib.hid (fun u => by
        have := ghHasE_ok bg A c R edges x y u.val ((hg.next hb2).next u.h) hx.1 hy.2
        rw [hp1] at this
        exact this)
      have ql : decide ((x : Int) ≤ (y : Int)) = false := decide_eq_false (by omega)
      have hund : undef = Value.tuple #[] := rfl
      clear hp1 hx hy
      go_wp2_with fail
      refine wp_region_kept W2.heap.size W2 (by kernel_rfl) (by kernel_rfl) (Below.refl _ _) ?_
      repeat (go_big_quiet_step ((go_at_call 28; exact Kept.calls (Nat.le_refl _) (KH.out _))))
      refine wpQuiet_nil ?_
      rintro w5 ⟨⟨_, hb5⟩, rfl⟩
      clear KH
      have hb6 := hb2.trans (hb5.mono hs2)
      go_wp2_with fail
      first | exact ⟨_, rfl, rfl, i - (k + 1), by omega, by trivial, k + 1, rfl, rfl, hkl, hb6⟩ | exact ⟨i - (k + 1), by omega, by trivial, k + 1, rfl, rfl, hkl, hb6⟩
    · obtain rfl : k = i := by omega
      have q1 : decide ((k : Int) < (k : Int)) = false := decide_eq_false (by omega)
      go_wp2_with fail
      refine HKb.out _ _ ?_
      clear HKb
      go_wp2_with fail
      first | exact ⟨_, rfl, rfl, q.length - (k + 1), by omega, by trivial, k + 1, rfl, rfl, hil, hb2⟩ | exact ⟨q.length - (k + 1), by omega, by trivial, k + 1, rfl, rfl, hil, hb2⟩
  · obtain rfl : i = q.length := by omega
    have q0 : decide ((q.length : Int) < (q.length : Int)) = false := decide_eq_false (by omega)
    go_wp2_with fail
    exact HQ.out _ _ _ _ _ _ _ _ _ _ _ _ _ _ _ _ _ _ _ _ _ _ _ _ _ _ _ _ _ _ _ _ _ _ _ _ hb1
end Go.Proofs.YtjoomgojnpcbeaaDoor
end

section
namespace Go.Proofs.YtjoomgojnpcbeaaDoor
open Go Go.RowKit Gh
set_option maxRecDepth 100000
theorem cntB_eq {ls : List SLc} {F : List (List Nat)} (h : ls.map (·.xs) = F.map bsl) (e : Ge.Ed) : cntB e ls = (F.filter fun c => decide (e.1 ∈ c) && decide (e.2 ∈ c)).length := by
  have h1 : cntB e ls = ((ls.map (·.xs)).filter fun l => decide ((e.1 : Int) ∈ l) && decide ((e.2 : Int) ∈ l)).length := by
    unfold cntB
    rw [List.filter_map, List.length_map]
    rfl
  rw [h1, h, List.filter_map, List.length_map]
  congr 1
  refine List.filter_congr fun c _ => ?_
  simp only [Function.comp, mem_bsl]
theorem blks_len {R : List Nat} (hR : Dg.Ok R) : (blks R).length ≤ 512 ∧ ∀ b ∈ blks R, b.length ≤ 512 := by
  obtain ⟨b1, b2, -⟩ := upto_ok (R := R) (fun v x h => hR.fit v x h) hR.len R.length (Nat.le_refl _)
  have hp := isort_perm (found R).blocks
  have hl := hR.len
  refine ⟨?_, fun b hb => b2.len b (hp.mem_iff.1 hb)⟩
  have h1 := hp.length_eq
  have h2 := b1.cb
  have h3 := b1.ct
  show (isort (found R).blocks).length ≤ 512
  rw [h1]
  show (upto R R.length).blocks.length ≤ 512
  omega
theorem has_mem {E : List Ge.Ed} {e : Ge.Ed} (h : e ∈ E) : Ge.has E (e.1 : Nat) (e.2 : Nat) = true := by
  unfold Ge.has
  rw [List.any_eq_true]
  exact ⟨e, h, by unfold Ge.hit; simp⟩
theorem bsl_inj {a b : List Nat} (h : bsl a = bsl b) : a = b := by
  have h2 := congrArg (fun l => l.map Int.toNat) h
  simpa [bsl, List.map_map, Function.comp_def] using h2
section
variable {w W : World} {g bg n : Nat} {R : List Nat} {E : List Ge.Ed} {EA : Option Addr} {ec : Nat}
theorem LG.blocks (h : LG w W g bg n R E EA ec) : Calls Tryd.prog 17 #[gp bg] W fun e w' => (∃ A c ls CA cc, e = .returned (.tuple #[.slice A ls.length c, .slice CA (cuts R).length cc]) ∧ LL w' A ls ∧ ls.map (·.xs) = (blks R).map bsl ∧ Sl 1 icell w' w'.heap.size CA (bsl (cuts R))) ∧ Below W.heap.size W w' := by
  refine (ghBlocks_ok _ R W h.ge.go.gg.v h.er.ok.len h.er.fit h.tab).mono ?_
  rintro e w' ⟨v, ls, CA, cc, rfl, hlo, hls, hS, hb⟩
  obtain ⟨A, c, rfl, hll⟩ := hlo.sl_
  exact ⟨⟨A, c, ls, CA, cc, rfl, hll, hls, hS⟩, hb⟩
theorem LG.counts (h : LG w W g bg n R E EA ec) {ls : List SLc} (hls : ls.map (·.xs) = (blks R).map bsl) : ls.length ≤ 1000 ∧ (∀ s ∈ ls, s.xs.length ≤ 1000) ∧ ∀ e ∈ E, cntB e ls = 1 := by
  obtain ⟨h1, h2⟩ := blks_len h.er.ok
  refine ⟨?_, fun s hs => ?_, fun e he => ?_⟩
  · have := congrArg List.length hls
    rw [List.length_map, List.length_map] at this
    omega
  · have h3 : s.xs ∈ ls.map (·.xs) := List.mem_map.2 ⟨s, hs, rfl⟩
    rw [hls] at h3
    obtain ⟨b, hb, e⟩ := List.mem_map.1 h3
    rw [← e, bsl_len]
    have := h2 b hb
    omega
  · rw [cntB_eq hls]
    obtain ⟨q1, q2, q3⟩ := h.er.lt e he
    have hl := h.len
    exact Ge.blk_count (blks_isB h.er.fit h.er.ok.len h.er.adj) h.er.adj (by show (Dg.row R e.1).testBit e.2 = true; rw [h.er.bit]; exact has_mem he) q3 (by omega) (by omega)
theorem LG.colourB (h : LG w W g bg n R E EA ec) (OA : Option Addr) (oc : Nat) (hO : Sl 1 icell W W.heap.size OA (bsl (Ge.back E n))) : Calls Tryd.prog 24 #[gp bg, .slice OA n oc] W fun e w' => (∃ A c, e = .returned (.tuple #[.slice A n c, .int .i64 0]) ∧ Sl 1 icell w' w'.heap.size A (nfl n (Ge.colE E (Ge.back E n) n).2)) ∧ Below W.heap.size W w' := by
  have k := h.colour OA oc (bsl (Ge.back E n)) hO Ge.back_full
  rw [bsl_len, Ge.back_len] at k
  refine k.mono ?_
  rintro e w' ⟨⟨A, c, O, hO2, rfl, hS⟩, hb⟩
  have := bsl_inj hO2
  subst this
  rw [Ge.back_len] at hS
  exact ⟨⟨A, c, rfl, hS⟩, hb⟩
theorem rem_d (er : Ge.ER n E R) : (Ge.rem E n n).2.2 ≤ 512 := by
  rw [er.rem n (Nat.le_refl _)]
  exact (rmv_ok er.ok.len n (by rw [er.len]; exact Nat.le_refl _)).le
theorem LG.proper (h : LG w W g bg n R E EA ec) (h511 : n ≤ 511) : ∀ e ∈ E, e.1 < n ∧ e.2 < n ∧ (Ge.colE E (Ge.back E n) n).2 e.1 ≠ (Ge.colE E (Ge.back E n) n).2 e.2 := fun e he => by
  obtain ⟨q1, q2, -⟩ := h.er.lt e he
  have hl := Ge.back_len (E := E) (n := n)
  refine ⟨q1, q2, ?_⟩
  have hm : ∀ x, x < n → x ∈ (Ge.back E n).take n := fun x hx => by
    rw [List.take_of_length_le (by omega)]
    exact (Ge.back_mem x).2 hx
  exact Ge.col_ne (E := E) (fun v => by rw [← h.er.bit]; exact h.er.loop v) (Ge.back_nd (E := E) (n := n)) (by omega) n (by omega) e.1 (hm _ q1) e.2 (hm _ q2) (has_mem he)
theorem LG.pairs (h : LG w W g bg n R E EA ec) : (∀ x ∈ Ge.cliq E n, x < R.length ∧ x < 512) ∧ ∀ i k (hi : i < (Ge.cliq E n).length) (hk : k < i), (Dg.row R (Ge.cliq E n)[i]).testBit ((Ge.cliq E n)[k]'(by omega)) = true ∧ (Ge.cliq E n)[k]'(by omega) < (Ge.cliq E n)[i] := by
  have hl := h.len
  have hle := h.er.le
  refine ⟨fun x hx => ?_, fun i k hi hk => ?_⟩
  · unfold Ge.cliq Ge.pickIn at hx
    have := List.mem_range.1 (List.mem_filter.1 hx).1
    omega
  · have hlt := List.pairwise_iff_getElem.1 (Ge.cliq_lt (E := E) (n := n)) k i (by omega) hi hk
    refine ⟨?_, hlt⟩
    rw [h.er.bit]
    exact Ge.cliq_pair (List.getElem_mem hi) (List.getElem_mem (by omega)) (by omega)
end
set_option maxHeartbeats 64000000 in
theorem graphTheory_walk (n : Int) (LA : Option Addr) (lc : Nat) (l : List (Int × Int)) (w : World) (ht : Tab64 w) (hL : Sl 2 dcell w w.heap.size LA l) :
    Calls Tryd.prog 7 #[.int .i64 n, .slice LA l.length lc] w fun e w' => e = .returned (.bool true) ∧ Below w.heap.size w w' := by
  have hund : undef = Value.tuple #[] := rfl
  obtain ⟨r, g0⟩ : ∃ r, decide (n < 0) = r := ⟨_, rfl⟩
  cases r with
  | true =>
    go_enter Tryd.func7, Tryd.ntmps7
    go_wp2_with fail
    refine (known08_any w ht).mono ?_
    rintro e x9 ⟨rfl, hb9⟩
    go_wp2_with fail
    go_ret
    exact ⟨rfl, hb9⟩
  | false =>
  obtain ⟨r, g1⟩ : ∃ r, decide ((25 : Int) < n) = r := ⟨_, rfl⟩
  cases r with
  | true =>
    go_enter Tryd.func7, Tryd.ntmps7
    go_wp2_with fail
    refine (known08_any w ht).mono ?_
    rintro e x9 ⟨rfl, hb9⟩
    go_wp2_with fail
    go_ret
    exact ⟨rfl, hb9⟩
  | false =>
  obtain ⟨r, g2⟩ : ∃ r, decide ((60 : Int) < (l.length : Int)) = r := ⟨_, rfl⟩
  cases r with
  | true =>
    go_enter Tryd.func7, Tryd.ntmps7
    go_wp2_with fail
    refine (known08_any w ht).mono ?_
    rintro e x9 ⟨rfl, hb9⟩
    go_wp2_with fail
    go_ret
    exact ⟨rfl, hb9⟩
  | false =>
  obtain ⟨m, rfl⟩ : ∃ m : Nat, n = m := ⟨n.toNat, by have := of_decide_eq_false g0; omega⟩
  have hm : m ≤ 25 := by have := of_decide_eq_false g1; omega
  have hl : l.length ≤ 60 := by have := of_decide_eq_false g2; omega
  have kB := lBuild_ok m LA lc l w hL (by omega) (by omega)
  go_enter Tryd.func7, Tryd.ntmps7
  refine wp_seq_k ?_
  intro Ka hKa
  have HKa := Lib.hid hKa
  clear hKa
  go_wp2_with fail
  refine HKa.out _ _ ?_
  clear HKa
  refine wp_seq_k ?_
  intro Kb hKb
  have HKb := Lib.hid hKb
  clear hKb
  go_wp2_with fail
  refine HKb.out _ _ ?_
  clear HKb
  refine wp_seq_k ?_
  intro Kc hKc
  have HKc := Lib.hid hKc
  clear hKc
  go_wp2_with fail
  refine kB.mono ?_
  rintro e w1 ⟨g, bg, R, EA, ec, rfl, ge, hb1⟩
  go_wp2_with fail
  refine HKc.out _ _ ?_
  clear HKc
  refine wp_seq_k ?_
  intro Kd hKd
  have HKd := Lib.hid hKd
  clear hKd
  go_wp2_with fail
  refine HKd.out _ _ ?_
  clear HKd
  have lg := LG.of ht (by omega) hb1 ge
  clear kB ge hb1 g0 g1 g2
  generalize Ge.bld m l = E at *
  refine wp_seq_k ?_
  intro Ke hKe
  have HKe := Lib.hid hKe
  clear hKe
  go_wp2_with fail
  refine (lg.blocks).mono ?_
  rintro e w2 ⟨⟨BA, bc, bls, CA, cc, rfl, hbl, hbe, -⟩, hbx⟩
  replace lg := lg.next hbx
  clear hbx
  go_wp2_with fail
  refine HKe.out _ _ ?_
  clear HKe
  obtain ⟨hc1, hc2, hc3⟩ := lg.counts hbe
  have HC2 := Lib.hid hc2
  have HC3 := Lib.hid hc3
  clear hc2 hc3 hbe
  refine wp_seq_k ?_
  intro K0 hK0
  have HK0 := Lib.hid hK0
  clear hK0
  refine wp_seq_k ?_
  intro M0 hM0
  have HM0 := Lib.hid hM0
  clear hM0
  go_wp2_with fail
  refine HM0.out _ _ ?_
  clear HM0
  refine th_l1 w2 EA ec E BA bc bls lg.ge.sl lg.el hbl hc1 HC2.out HC3.out rfl ?_
  intro y9 y10 y11 y48 y49 y50 y51 y52 y53 y54 y55 y56 y57 y58 y59 y60 y61 y62 y63 y64 y65 y66 y67 y68 y69 y70 y71 y72 y73 y74 y75 y76 y77 y78 y79 y80 y81 y82 y83 y84 y85 w3 hbx
  dsimp only
  refine HK0.out _ _ ?_
  clear HK0
  replace lg := lg.next hbx
  replace hbl := hbl.next hbx
  clear hbx
  clear hbl
  have hrl := rem_len lg.er
  have HRL := Lib.hid hrl.1
  clear hrl
  refine wp_seq_k ?_
  intro Kf hKf
  have HKf := Lib.hid hKf
  clear hKf
  go_wp2_with fail
  refine (lg.degen).mono ?_
  rintro e w4 ⟨⟨OA, oc, rfl, hO⟩, hbx⟩
  replace lg := lg.next hbx
  clear hbx
  go_wp2_with fail
  refine HKf.out _ _ ?_
  clear HKf
  refine wp_seq_k ?_
  intro Kg hKg
  have HKg := Lib.hid hKg
  clear hKg
  go_wp2_with fail
  refine HKg.out _ _ ?_
  clear HKg
  obtain ⟨d, hd⟩ : ∃ d, (Ge.rem E m m).2.2 = d := ⟨_, rfl⟩
  have HD := Lib.hid hd
  rw [hd]
  clear hd
  refine wp_seq_k ?_
  intro K3 hK3
  have HK3 := Lib.hid hK3
  clear hK3
  refine wp_seq_k ?_
  intro M3 hM3
  have HM3 := Lib.hid hM3
  clear hM3
  go_wp2_with fail
  refine HM3.out _ _ ?_
  clear HM3
  refine th_l3 w4 OA oc m (Ge.rem E m m).1 ((m : Int) - 1) HRL.out hO (by rw [HRL.out]; omega) (by rw [HRL.out]) rfl ?_
  intro y15 y94 y95 y96 y97 y98 y99 y100 y101 y102 y103 y104 A3 c3 w5 hbx hBk
  dsimp only
  refine HK3.out _ _ ?_
  clear HK3
  replace lg := lg.next hbx
  replace hO := (hO.below hbx).more hbx.size
  clear hbx
  clear hO
  refine wp_seq_k ?_
  intro Kh hKh
  have HKh := Lib.hid hKh
  clear hKh
  go_wp2_with fail
  refine (lg.colourB A3 c3 hBk).mono ?_
  rintro e w6 ⟨⟨FA, fc, rfl, hC⟩, hbx⟩
  replace lg := lg.next hbx
  replace hBk := (hBk.below hbx).more hbx.size
  clear hbx
  clear hBk
  go_wp2_with fail
  refine HKh.out _ _ ?_
  clear HKh
  have qm : ((m : Int) != (m : Int)) = false := by simp
  have HCD := Lib.hid (Ge.col_le (E := E) (n := m) m (Nat.le_refl _))
  obtain ⟨ff, hff⟩ : ∃ ff, (Ge.colE E (Ge.back E m) m).2 = ff := ⟨_, rfl⟩
  have HPR := Lib.hid (lg.proper (by omega))
  rw [hff] at hC HCD HPR
  clear hff
  rw [HD.out] at HCD
  refine wp_seq_k ?_
  intro Ki hKi
  have HKi := Lib.hid hKi
  clear hKi
  go_wp2_with fail
  refine HKi.out _ _ ?_
  clear HKi
  refine wp_seq_k ?_
  intro K4 hK4
  have HK4 := Lib.hid hK4
  clear hK4
  refine wp_seq_k ?_
  intro M4 hM4
  have HM4 := Lib.hid hM4
  clear hM4
  go_wp2_with fail
  refine HM4.out _ _ ?_
  clear HM4
  refine th_l4 w6 FA fc m d ff hC (by omega) HCD.out rfl ?_
  intro y18 y119 y120 y121 y122 y123 y124 y125 y126 y127 y128 y129 y130 y131 y132 y133 y134 y135 y136 w7 hw7
  dsimp only
  refine HK4.out _ _ ?_
  clear HK4
  subst hw7
  refine wp_seq_k ?_
  intro K5 hK5
  have HK5 := Lib.hid hK5
  clear hK5
  refine wp_seq_k ?_
  intro M5 hM5
  have HM5 := Lib.hid hM5
  clear hM5
  go_wp2_with fail
  refine HM5.out _ _ ?_
  clear HM5
  refine th_l5 w6 EA ec E FA fc m ff lg.ge.sl lg.el hC HPR.out rfl ?_
  intro y19 y137 y138 y139 y140 y141 y142 y143 y144 y145 y146 y147 y148 y149 y150 y151 y152 y153 y154 y155 y156 y157 y158 y159 w8 hbx
  dsimp only
  refine HK5.out _ _ ?_
  clear HK5
  replace lg := lg.next hbx
  replace hC := (hC.below hbx).more hbx.size
  clear hbx
  clear hC
  have hcl := cliq_len lg.er
  have hcd := Ge.cliq_le (E := E) (n := m)
  rw [HD.out] at hcd
  have hcz : (0 < (Ge.cliq E m).length) = (0 < m) := propext ⟨fun h => (by rcases Nat.eq_zero_or_pos m with h0 | h0; (rw [h0, Ge.cliq_zero] at h; omega); exact h0), Ge.cliq_pos⟩
  have HCZ := Lib.hid hcz
  clear hcz
  refine wp_seq_k ?_
  intro Kj hKj
  have HKj := Lib.hid hKj
  clear hKj
  go_wp2_with fail
  refine (lg.clique).mono ?_
  rintro e w9 ⟨⟨QA, qc, rfl, hq⟩, hbx⟩
  replace lg := lg.next hbx
  clear hbx
  go_wp2_with fail
  refine HKj.out _ _ ?_
  clear HKj
  obtain ⟨hp1, hp2⟩ := lg.pairs
  have HP1 := Lib.hid hp1
  have HP2 := Lib.hid hp2
  clear hp1 hp2
  refine wp_seq_k ?_
  intro K6 hK6
  have HK6 := Lib.hid hK6
  clear hK6
  refine wp_seq_k ?_
  intro M6 hM6
  have HM6 := Lib.hid hM6
  clear hM6
  go_wp2_with fail
  refine HM6.out _ _ ?_
  clear HM6
  refine th_l6 w9 bg _ m R E.length QA qc (Ge.cliq E m) lg.ge.go.gg hq (by omega) HP1.out HP2.out rfl ?_
  intro y21 y22 y162 y163 y164 y165 y166 y167 y168 y169 y170 y171 y172 y173 y174 y175 y176 y177 y178 y179 y180 y181 y182 y183 y184 y185 y186 y187 y188 y189 y190 y191 y192 y193 y194 t1 hbx
  dsimp only
  refine HK6.out _ _ ?_
  clear HK6
  replace lg := lg.next hbx
  replace hq := (hq.below hbx).more hbx.size
  clear hbx
  clear hq
  have z1 : decide (((Ge.cliq E m).length : Int) ≤ (d : Int) + 1) = true := decide_eq_true (by omega)
  have z0 : decide ((Ge.cliq E m).length ≤ d + 1) = true := decide_eq_true hcd
  have hd512 : d ≤ 512 := by rw [← HD.out]; exact rem_d lg.er
  obtain ⟨rz, hrz⟩ : ∃ r, decide (0 < m) = r := ⟨_, rfl⟩
  have z2 : decide ((0 : Int) < ((Ge.cliq E m).length : Int)) = rz := by rw [← hrz, decide_eq_decide]; have := iff_of_eq HCZ.out; omega
  have z3 : decide ((0 : Int) < (m : Int)) = rz := by rw [← hrz, decide_eq_decide]; omega
  have z4 : decide (0 < (Ge.cliq E m).length) = rz := by rw [← hrz, decide_eq_decide]; exact iff_of_eq HCZ.out
  have z5 : (rz == rz) = true := by simp
  go_wp2_with fail
  refine (lg.known).mono ?_
  rintro e x9 ⟨rfl, hbx⟩
  have hbz := after_ lg.bel hbx
  go_wp2_with fail
  go_ret
  exact ⟨rfl, hbz⟩
end Go.Proofs.YtjoomgojnpcbeaaDoor
end
