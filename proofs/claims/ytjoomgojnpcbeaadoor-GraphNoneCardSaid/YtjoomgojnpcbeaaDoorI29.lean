/- A bundle of texts: Lb1, LbCo, LbAi, LbCy, LbAd, LbNo. -/
import Derived.Test.YtjoomgojnpcbeaaDoorI27
import Derived.Test.YtjoomgojnpcbeaaDoorI26
import Derived.Test.YtjoomgojnpcbeaaDoorI28
import Derived.Test.YtjoomgojnpcbeaaDoorI14
section
namespace Go.Proofs.YtjoomgojnpcbeaaDoor
open Go Go.RowKit Gh
set_option maxRecDepth 100000
structure LG (w W : World) (g bg n : Nat) (R : List Nat) (E : List Ge.Ed) (EA : Option Addr) (ec : Nat) : Prop where
  bel : Below w.heap.size w W
  ge : GE W w.heap.size g bg n R E EA ec
  tab0 : Tab64 w
  el : E.length ≤ 1000
section
variable {w W W' : World} {g bg n : Nat} {R : List Nat} {E : List Ge.Ed} {EA : Option Addr} {ec : Nat}
theorem LG.tab (h : LG w W g bg n R E EA ec) : Tab64 W := h.tab0.kept h.bel
theorem LG.next (h : LG w W g bg n R E EA ec) (hb : Below W.heap.size W W') : LG w W' g bg n R E EA ec := ⟨after_ h.bel hb, h.ge.next hb, h.tab0, h.el⟩
theorem LG.er (h : LG w W g bg n R E EA ec) : Ge.ER n E R := h.ge.er
theorem LG.len (h : LG w W g bg n R E EA ec) : R.length = n := h.ge.er.len
theorem LG.known (h : LG w W g bg n R E EA ec) : Calls Tryd.prog 11 #[] W fun e w' => e = .returned (.bool true) ∧ Below W.heap.size W w' := known08_any W h.tab
theorem LG.of {m : Nat} {l : List (Int × Int)} (ht : Tab64 w) (hl : l.length ≤ 1000) (hb : Below w.heap.size w W) (ge : GE W w.heap.size g bg m R (Ge.bld m l) EA ec) : LG w W g bg m R (Ge.bld m l) EA ec :=
  ⟨hb, ge, ht, by have := Ge.bld_len m l l.length (Nat.le_refl _); rw [List.take_length] at this; omega⟩
theorem cmps_le (R : List Nat) : (Dg.cmps R).length ≤ R.length ∧ ∀ s ∈ Dg.cmps R, s.length ≤ 512 := by
  unfold Dg.cmps Dg.cmpsTo
  refine ⟨by rw [List.length_map]; exact Dg.lds_len R _, fun s hs => ?_⟩
  obtain ⟨u, -, rfl⟩ := List.mem_map.1 hs
  exact Bs.els_len _ _
theorem comps_le (er : Ge.ER n E R) : (Ge.comps E (List.range n)).length ≤ 512 ∧ ∀ s ∈ Ge.comps E (List.range n), s.length ≤ 512 := by
  rw [er.comps]
  have := cmps_le R
  have := er.le
  have := er.len
  exact ⟨by omega, (cmps_le R).2⟩
theorem LG.comps (h : LG w W g bg n R E EA ec) : Calls Tryd.prog 14 #[gp bg] W fun e w' => (∃ A c ls, e = .returned (.slice A ls.length c) ∧ LL w' A ls ∧ ls.map (·.xs) = (Ge.comps E (List.range n)).map bsl) ∧ Below W.heap.size W w' := by
  refine (ghComponents_ok _ R W h.ge.go.gg.v h.er.ok h.er.sy h.tab).mono ?_
  rintro e w' ⟨v, ls, rfl, hlo, hls, hb⟩
  obtain ⟨A, c, rfl, hll⟩ := hlo.sl_
  exact ⟨⟨A, c, ls, rfl, hll, by rw [hls, h.er.comps]⟩, hb⟩
theorem lAl {A B : Option Addr} {ac bc : Nat} {us vs : List SLc} {cs : List (List Nat)} (W : World) (hA : LL W A us) (hB : LL W B vs) (h1 : us.map (·.xs) = cs.map bsl) (h2 : vs.map (·.xs) = cs.map bsl) (hl : cs.length ≤ 512 ∧ ∀ s ∈ cs, s.length ≤ 512) : Calls Tryd.prog 13 #[.slice A us.length ac, .slice B vs.length bc] W fun e w' => e = .returned (.bool true) ∧ Below W.heap.size W w' := by
  have hlu : us.length = cs.length := by have := congrArg List.length h1; simpa using this
  have h := lAlike_any A B ac bc us vs W hA hB (by omega) (fun s hs => by
    have h3 : s.xs ∈ us.map (·.xs) := List.mem_map.2 ⟨s, hs, rfl⟩
    rw [h1] at h3
    obtain ⟨t, ht, e⟩ := List.mem_map.1 h3
    rw [← e, bsl_len]
    have := hl.2 t ht
    omega)
  rw [decide_eq_true (h1.trans h2.symm)] at h
  exact h
theorem lEq {A B : Option Addr} {ac bc n m : Nat} {L : List Nat} (W : World) (hn : n = L.length) (hm : m = L.length) (hA : Sl 1 icell W W.heap.size A (bsl L)) (hB : Sl 1 icell W W.heap.size B (bsl L)) (hl : L.length ≤ 1000000) : Calls Tryd.prog 19 #[.slice A n ac, .slice B m bc] W fun e w' => e = .returned (.bool true) ∧ Below W.heap.size W w' := by
  subst hn hm
  have h := lEqual_any A B ac bc (bsl L) (bsl L) W hA hB (by rw [bsl_len]; exact hl)
  rw [decide_eq_true rfl, bsl_len] at h
  exact h
theorem LG.clique (h : LG w W g bg n R E EA ec) : Calls Tryd.prog 22 #[gp bg] W fun e w' => (∃ A c, e = .returned (.slice A (Ge.cliq E n).length c) ∧ Sl 1 icell w' w'.heap.size A (bsl (Ge.cliq E n))) ∧ Below W.heap.size W w' := by
  refine (ghClique_ok _ R W h.ge.go.gg.v h.er.ok.len h.er.fit h.er.sy h.tab).mono ?_
  rintro e w' ⟨A, c, rfl, hS, hb⟩
  rw [bsl_len, h.er.cliq]
  exact ⟨⟨A, c, rfl, hS⟩, hb⟩
end
end Go.Proofs.YtjoomgojnpcbeaaDoor
end

section
namespace Go.Proofs.YtjoomgojnpcbeaaDoor
open Go Go.RowKit Gh
set_option maxRecDepth 100000
theorem rAll_sl (m : Nat) (w : World) (hm : m ≤ 1000000) : Calls Tryd.prog 16 #[.int .i64 m] w fun e w' => (∃ A c, e = .returned (.slice A m c) ∧ Sl 1 icell w' w'.heap.size A (bsl (List.range m))) ∧ Below w.heap.size w w' := by
 refine (rAll_ok m w hm).mono ?_
 rintro e w' ⟨A, c, rfl, h, hb⟩
 have h2 := own_sl h
 rw [List.length_range]
 exact ⟨⟨A, c, rfl, h2⟩, hb⟩
end Go.Proofs.YtjoomgojnpcbeaaDoor
end

section
namespace Go.Proofs.YtjoomgojnpcbeaaDoor
open Go Go.RowKit Gh
set_option maxRecDepth 100000
theorem Ge.ER.hasB {n : Nat} {E : List Ge.Ed} {R : List Nat} (h : Ge.ER n E R) (a b : Int) : hasB R a b = Ge.has E a b := by
  unfold Go.Proofs.YtjoomgojnpcbeaaDoor.hasB inR
  by_cases ha : 0 ≤ a ∧ a < (R.length : Int)
  · obtain ⟨x, rfl⟩ : ∃ x : Nat, a = x := ⟨a.toNat, by omega⟩
    rw [decide_eq_true ha.1, decide_eq_true ha.2]
    by_cases hb : 0 ≤ b
    · obtain ⟨y, rfl⟩ : ∃ y : Nat, b = y := ⟨b.toNat, by omega⟩
      rw [decide_eq_true hb, Int.toNat_natCast, Int.toNat_natCast, h.bit]; rfl
    · rw [decide_eq_false hb]
      cases hc : Ge.has E (x : Int) b with
      | false => rfl
      | true => obtain ⟨p, q, h1, h2, -⟩ := Ge.has_lt h.lt hc; omega
  · have e : (decide (0 ≤ a) && decide (a < (R.length : Int))) = false := by
      rw [Bool.and_eq_false_iff, decide_eq_false_iff_not, decide_eq_false_iff_not]
      omega
    rw [e, Bool.false_and]
    cases hc : Ge.has E a b with
    | false => rfl
    | true =>
      obtain ⟨p, q, h1, h2, h3, h4, -⟩ := Ge.has_lt h.lt hc
      have := h.len
      omega
set_option maxHeartbeats 16000000 in
theorem adds_reg22 {Q : Exit → Act → World → Prop} {cd : Code} {ds0 : List Deferred} {Z0 Z2 Z3 Z4 Z5 Z6 Z7 Z8 Za Zb Zd Ze Zf Zg Zh Zi Zj Zk Zl Zm Zn Zo Zp Zq Zr Zs Zt Zu Zv Zw Zx Zy Zz Z10 Z11 Z12 Z13 Z14 Z15 Z16 Z17 Z18 Z19 Z1a Z1b Z1c Z1d Z1e Z1f Z1g Z1h Z1i Z1j Z1k Z1l Z1m Z1n Z1o Z1p Z1q Z1r Z1s Z1t Z1u Z1v Z1w Z1x Z1y Z1z Z20 Z21 Z22 Z23 Z24 Z25 Z26 Z27 Z28 Z29 Z2a Z2b Z2c Z2d Z2e Z2f Z2g Z2h Z2i Z2j Z2k Z2l Z2m Z2n Z2o Z2p Z2q Z2r Z2s Z2t Z2u Z2v Z2w Z2x Z2y Z2z Z30 Z31 Z32 Z33 Z34 Z35 Z36 Z37 Z38 Z39 Z3a Z3b Z3c Z3d Z3e Z3f Z3g Z3h Z3i Z3j Z3k Z3l Z3m Z3n Z3o Z3p Z3q Z3r Z3s Z3t Z3u Z3v Z3w Z3x Z3y Z3z Z40 Z41 Z42 Z43 Z44 Z45 Z46 Z47 Z48 Z49 Z4a Z4b Z4c Z4d Z4e Z4f Z4g Z4h Z4i Z4j Z4k Z4l Z4m Z4n Z4o Z4p Z4q Z4r Z4s Z4t Z4u Z4v Z4w Z4x Z4y Z4z Z50 Z51 Z52 Z53 Z54 Z55 Z56 Z57 Z58 Z59 Z5a Z5b Z5c Z5d Z5e Z5f Z5g Z5h Z5i Z5j Z5k Z5l Z5m Z5n Z5o Z5p Z5q Z5r Z5s Z5t Z5u Z5v Z5w Z5x Z5y Z5z Z60 Z61 Z62 Z63 Z64 Z65 Z66 Z67 Z68 Z69 Z6a Z6b Z6c Z6d Z6e Z6f Z6g Z6h Z6i Z6j Z6k Z6l : Value} (W : World) (LA : Option Addr) (lc : Nat) (l : List (Int × Int)) (i k : Nat) (hL : Sl 2 dcell W W.heap.size LA l) (hi : i < l.length) (hk : k < 2) (hcd : (Tryd.f8.body.bind (regionOf 22)) = some cd)
    (hQ : ∀ (v : Int) (y164 y165 y166 y167 y168 y169 y170 y171 y172 y173 y174 y175 y176 : Value) (W' : World), Below W.heap.size W W' → Q .normal ⟨#[Z0, .slice LA l.length lc, Z2, Z3, Z4, Z5, Z6, Z7, Z8, .int .i64 (i : Nat), Za, Zb, .int .i64 (k : Nat), .int .i64 v, Ze, Zf, Zg, Zh, Zi, Zj, Zk, Zl, Zm, Zn, Zo, Zp, Zq, Zr, Zs, Zt, Zu, Zv, Zw, Zx, Zy, Zz, Z10, Z11, Z12, Z13, Z14, Z15, Z16, Z17, Z18, Z19, Z1a, Z1b, Z1c, Z1d, Z1e, Z1f, Z1g, Z1h, Z1i, Z1j, Z1k, Z1l, Z1m, Z1n, Z1o, Z1p, Z1q, Z1r, Z1s, Z1t, Z1u, Z1v, Z1w, Z1x, Z1y, Z1z, Z20, Z21, Z22, Z23, Z24, Z25, Z26, Z27, Z28, Z29, Z2a, Z2b, Z2c, Z2d, Z2e, Z2f, Z2g, Z2h, Z2i, Z2j, Z2k, Z2l, Z2m, Z2n, Z2o, Z2p, Z2q, Z2r, Z2s, Z2t, Z2u, Z2v, Z2w, Z2x, Z2y, Z2z, Z30, Z31, Z32, Z33, Z34, Z35, Z36, Z37, Z38, Z39, Z3a, Z3b, Z3c, Z3d, Z3e, Z3f, Z3g, Z3h, Z3i, Z3j, Z3k, Z3l, Z3m, Z3n, Z3o, Z3p, Z3q, Z3r, Z3s, Z3t, Z3u, Z3v, Z3w, Z3x, Z3y, Z3z, Z40, Z41, Z42, Z43, Z44, Z45, Z46, Z47, Z48, Z49, Z4a, Z4b, Z4c, Z4d, Z4e, Z4f, Z4g, Z4h, Z4i, Z4j, y164, y165, y166, y167, y168, y169, y170, y171, y172, y173, y174, y175, y176, Z4x, Z4y, Z4z, Z50, Z51, Z52, Z53, Z54, Z55, Z56, Z57, Z58, Z59, Z5a, Z5b, Z5c, Z5d, Z5e, Z5f, Z5g, Z5h, Z5i, Z5j, Z5k, Z5l, Z5m, Z5n, Z5o, Z5p, Z5q, Z5r, Z5s, Z5t, Z5u, Z5v, Z5w, Z5x, Z5y, Z5z, Z60, Z61, Z62, Z63, Z64, Z65, Z66, Z67, Z68, Z69, Z6a, Z6b, Z6c, Z6d, Z6e, Z6f, Z6g, Z6h, Z6i, Z6j, Z6k, Z6l], ds0⟩ W') :
    cd.wp Tryd.prog Q ⟨#[Z0, .slice LA l.length lc, Z2, Z3, Z4, Z5, Z6, Z7, Z8, .int .i64 (i : Nat), Za, Zb, .int .i64 (k : Nat), Zd, Ze, Zf, Zg, Zh, Zi, Zj, Zk, Zl, Zm, Zn, Zo, Zp, Zq, Zr, Zs, Zt, Zu, Zv, Zw, Zx, Zy, Zz, Z10, Z11, Z12, Z13, Z14, Z15, Z16, Z17, Z18, Z19, Z1a, Z1b, Z1c, Z1d, Z1e, Z1f, Z1g, Z1h, Z1i, Z1j, Z1k, Z1l, Z1m, Z1n, Z1o, Z1p, Z1q, Z1r, Z1s, Z1t, Z1u, Z1v, Z1w, Z1x, Z1y, Z1z, Z20, Z21, Z22, Z23, Z24, Z25, Z26, Z27, Z28, Z29, Z2a, Z2b, Z2c, Z2d, Z2e, Z2f, Z2g, Z2h, Z2i, Z2j, Z2k, Z2l, Z2m, Z2n, Z2o, Z2p, Z2q, Z2r, Z2s, Z2t, Z2u, Z2v, Z2w, Z2x, Z2y, Z2z, Z30, Z31, Z32, Z33, Z34, Z35, Z36, Z37, Z38, Z39, Z3a, Z3b, Z3c, Z3d, Z3e, Z3f, Z3g, Z3h, Z3i, Z3j, Z3k, Z3l, Z3m, Z3n, Z3o, Z3p, Z3q, Z3r, Z3s, Z3t, Z3u, Z3v, Z3w, Z3x, Z3y, Z3z, Z40, Z41, Z42, Z43, Z44, Z45, Z46, Z47, Z48, Z49, Z4a, Z4b, Z4c, Z4d, Z4e, Z4f, Z4g, Z4h, Z4i, Z4j, Z4k, Z4l, Z4m, Z4n, Z4o, Z4p, Z4q, Z4r, Z4s, Z4t, Z4u, Z4v, Z4w, Z4x, Z4y, Z4z, Z50, Z51, Z52, Z53, Z54, Z55, Z56, Z57, Z58, Z59, Z5a, Z5b, Z5c, Z5d, Z5e, Z5f, Z5g, Z5h, Z5i, Z5j, Z5k, Z5l, Z5m, Z5n, Z5o, Z5p, Z5q, Z5r, Z5s, Z5t, Z5u, Z5v, Z5w, Z5x, Z5y, Z5z, Z60, Z61, Z62, Z63, Z64, Z65, Z66, Z67, Z68, Z69, Z6a, Z6b, Z6c, Z6d, Z6e, Z6f, Z6g, Z6h, Z6i, Z6j, Z6k, Z6l], ds0⟩ W := by
  rw [show (Tryd.f8.body.bind (regionOf 22)) = some (Code.region 22 _ true) from rfl] at hcd
  obtain rfl := Option.some.inj hcd
  clear hcd
  have HQ := Lib.hid hQ
  clear hQ
  have x0 : (0 : Int) ≤ (i : Int) := by omega
  have x1 : (i : Int) < (l.length : Int) := by omega
  have x2 : (0 : Int) < (l.length : Int) := by omega
  have x3 : 0 < l.length := by omega
  obtain ⟨la, hla, hlb, a0, a1⟩ := hL.pair_at hi
  obtain ⟨lb, hlb1, hlb2, b0, b1⟩ := hL.pair_at (k := 0) (by omega)
  obtain rfl := hla
  obtain rfl := Option.some.inj hlb1
  rw [show la.add (0 * 2) = la from by unfold Addr.add; rfl] at b0 b1 hlb2
  generalize l[i] = e1 at *
  generalize l[0] = e2 at *
  obtain ⟨a, b⟩ := e1
  obtain ⟨c, d⟩ := e2
  dsimp only at a0 a1 b0 b1
  rcases (show k = 0 ∨ k = 1 by omega) with rfl | rfl
  · refine wp_region_noPanic ?_
    go_region_law (fail)
    all_goals refine NoPanic.normal ?_
    all_goals exact HQ.out _ _ _ _ _ _ _ _ _ _ _ _ _ _ _ (by first | exact ((Below.refl _ _).drew).alloc (Nat.le_refl _) _ | exact ((Below.refl _ _).alloc (Nat.le_refl _) _).drew)
  · refine wp_region_noPanic ?_
    go_region_law (fail)
    all_goals refine NoPanic.normal ?_
    all_goals exact HQ.out _ _ _ _ _ _ _ _ _ _ _ _ _ _ _ (by first | exact ((Below.refl _ _).drew).alloc (Nat.le_refl _) _ | exact ((Below.refl _ _).alloc (Nat.le_refl _) _).drew)
set_option maxHeartbeats 64000000 in
theorem adds_in {Q : Exit → Act → World → Prop} {cd : Code} {ds0 : List Deferred} {Z2 Z3 Z4 Z6 Za Zb Zd Ze Zf Zg Zh Zi Zj Zk Zl Zm Zn Zo Zp Zq Zr Zs Zt Zu Zv Zw Zx Zy Zz Z10 Z11 Z12 Z13 Z14 Z15 Z16 Z17 Z18 Z19 Z1a Z1b Z1c Z1d Z1e Z1f Z1g Z1h Z1i Z1j Z1k Z1l Z1m Z1n Z1o Z1p Z1q Z1r Z1s Z1t Z1u Z1v Z1w Z1x Z1y Z1z Z20 Z21 Z22 Z23 Z24 Z25 Z26 Z27 Z28 Z29 Z2a Z2b Z2c Z2d Z2e Z2f Z2g Z2h Z2i Z2j Z2k Z2l Z2m Z2n Z2o Z2p Z2q Z2r Z2s Z2t Z2u Z2v Z2w Z2x Z2y Z2z Z30 Z31 Z32 Z33 Z34 Z35 Z36 Z37 Z38 Z39 Z3a Z3b Z3c Z3d Z3e Z3f Z3g Z3h Z3i Z3j Z3k Z3l Z3m Z3n Z3o Z3p Z3q Z3r Z3s Z3t Z3u Z3v Z3w Z3x Z3y Z3z Z40 Z41 Z42 Z43 Z44 Z45 Z46 Z47 Z48 Z49 Z4a Z4b Z4c Z4d Z4e Z4f Z4g Z4h Z4i Z4j Z4k Z4l Z4m Z4n Z4o Z4p Z4q Z4r Z4s Z4t Z4u Z4v Z4w Z4x Z4y Z4z Z50 Z51 Z52 Z53 Z54 Z55 Z56 Z57 Z58 Z59 Z5a Z5b Z5c Z5d Z5e Z5f Z5g Z5h Z5i Z5j Z5k Z5l Z5m Z5n Z5o Z5p Z5q Z5r Z5s Z5t Z5u Z5v Z5w Z5x Z5y Z5z Z60 Z61 Z62 Z63 Z64 Z65 Z66 Z67 Z68 Z69 Z6a Z6b Z6c Z6d Z6e Z6f Z6g Z6h Z6i Z6j Z6k Z6l : Value} (W : World) (base g bg m : Nat) (R : List Nat) (E : List Ge.Ed) (EA : Option Addr) (ec : Nat) (VA : Option Addr) (vc : Nat) (LA : Option Addr) (lc : Nat) (l : List (Int × Int)) (i : Nat) (ge : GE W base g bg m R E EA ec) (hV : Sl 1 icell W W.heap.size VA (bsl (List.range m))) (hL : Sl 2 dcell W W.heap.size LA l) (hi : i < l.length) (ht : Tab64 W) (hEl : E.length ≤ 1000) (hcd : (Tryd.f8.body.bind (blockOf 2)) = some cd)
    (hQ : ∀ (y12 y13 y14 y15 y16 y17 y160 y161 y162 y163 y164 y165 y166 y167 y168 y169 y170 y171 y172 y173 y174 y175 y176 y177 y178 y179 y180 y181 y182 y183 y184 y185 y186 y187 y188 y189 y190 y191 y192 y193 y194 y195 y196 y197 y198 y199 y200 y201 y202 y203 y204 y205 y206 y207 y208 y209 y210 y211 y212 y213 y214 y215 y216 y217 y218 y219 y220 y221 y222 y223 : Value) (W' : World), Below W.heap.size W W' → Q .normal ⟨#[.int .i64 (m : Nat), .slice LA l.length lc, Z2, Z3, Z4, gp bg, Z6, .slice VA m vc, .slice EA E.length ec, .int .i64 (i : Nat), Za, Zb, y12, y13, y14, y15, y16, y17, Zi, Zj, Zk, Zl, Zm, Zn, Zo, Zp, Zq, Zr, Zs, Zt, Zu, Zv, Zw, Zx, Zy, Zz, Z10, Z11, Z12, Z13, Z14, Z15, Z16, Z17, Z18, Z19, Z1a, Z1b, Z1c, Z1d, Z1e, Z1f, Z1g, Z1h, Z1i, Z1j, Z1k, Z1l, Z1m, Z1n, Z1o, Z1p, Z1q, Z1r, Z1s, Z1t, Z1u, Z1v, Z1w, Z1x, Z1y, Z1z, Z20, Z21, Z22, Z23, Z24, Z25, Z26, Z27, Z28, Z29, Z2a, Z2b, Z2c, Z2d, Z2e, Z2f, Z2g, Z2h, Z2i, Z2j, Z2k, Z2l, Z2m, Z2n, Z2o, Z2p, Z2q, Z2r, Z2s, Z2t, Z2u, Z2v, Z2w, Z2x, Z2y, Z2z, Z30, Z31, Z32, Z33, Z34, Z35, Z36, Z37, Z38, Z39, Z3a, Z3b, Z3c, Z3d, Z3e, Z3f, Z3g, Z3h, Z3i, Z3j, Z3k, Z3l, Z3m, Z3n, Z3o, Z3p, Z3q, Z3r, Z3s, Z3t, Z3u, Z3v, Z3w, Z3x, Z3y, Z3z, Z40, Z41, Z42, Z43, Z44, Z45, Z46, Z47, Z48, Z49, Z4a, Z4b, Z4c, Z4d, Z4e, Z4f, y160, y161, y162, y163, y164, y165, y166, y167, y168, y169, y170, y171, y172, y173, y174, y175, y176, y177, y178, y179, y180, y181, y182, y183, y184, y185, y186, y187, y188, y189, y190, y191, y192, y193, y194, y195, y196, y197, y198, y199, y200, y201, y202, y203, y204, y205, y206, y207, y208, y209, y210, y211, y212, y213, y214, y215, y216, y217, y218, y219, y220, y221, y222, y223, Z68, Z69, Z6a, Z6b, Z6c, Z6d, Z6e, Z6f, Z6g, Z6h, Z6i, Z6j, Z6k, Z6l], ds0⟩ W') :
    cd.wp Tryd.prog Q ⟨#[.int .i64 (m : Nat), .slice LA l.length lc, Z2, Z3, Z4, gp bg, Z6, .slice VA m vc, .slice EA E.length ec, .int .i64 (i : Nat), Za, Zb, .int .i64 0, Zd, Ze, Zf, Zg, Zh, Zi, Zj, Zk, Zl, Zm, Zn, Zo, Zp, Zq, Zr, Zs, Zt, Zu, Zv, Zw, Zx, Zy, Zz, Z10, Z11, Z12, Z13, Z14, Z15, Z16, Z17, Z18, Z19, Z1a, Z1b, Z1c, Z1d, Z1e, Z1f, Z1g, Z1h, Z1i, Z1j, Z1k, Z1l, Z1m, Z1n, Z1o, Z1p, Z1q, Z1r, Z1s, Z1t, Z1u, Z1v, Z1w, Z1x, Z1y, Z1z, Z20, Z21, Z22, Z23, Z24, Z25, Z26, Z27, Z28, Z29, Z2a, Z2b, Z2c, Z2d, Z2e, Z2f, Z2g, Z2h, Z2i, Z2j, Z2k, Z2l, Z2m, Z2n, Z2o, Z2p, Z2q, Z2r, Z2s, Z2t, Z2u, Z2v, Z2w, Z2x, Z2y, Z2z, Z30, Z31, Z32, Z33, Z34, Z35, Z36, Z37, Z38, Z39, Z3a, Z3b, Z3c, Z3d, Z3e, Z3f, Z3g, Z3h, Z3i, Z3j, Z3k, Z3l, Z3m, Z3n, Z3o, Z3p, Z3q, Z3r, Z3s, Z3t, Z3u, Z3v, Z3w, Z3x, Z3y, Z3z, Z40, Z41, Z42, Z43, Z44, Z45, Z46, Z47, Z48, Z49, Z4a, Z4b, Z4c, Z4d, Z4e, Z4f, Z4g, Z4h, Z4i, Z4j, Z4k, Z4l, Z4m, Z4n, Z4o, Z4p, Z4q, Z4r, Z4s, Z4t, Z4u, Z4v, Z4w, Z4x, Z4y, Z4z, Z50, Z51, Z52, Z53, Z54, Z55, Z56, Z57, Z58, Z59, Z5a, Z5b, Z5c, Z5d, Z5e, Z5f, Z5g, Z5h, Z5i, Z5j, Z5k, Z5l, Z5m, Z5n, Z5o, Z5p, Z5q, Z5r, Z5s, Z5t, Z5u, Z5v, Z5w, Z5x, Z5y, Z5z, Z60, Z61, Z62, Z63, Z64, Z65, Z66, Z67, Z68, Z69, Z6a, Z6b, Z6c, Z6d, Z6e, Z6f, Z6g, Z6h, Z6i, Z6j, Z6k, Z6l], ds0⟩ W := by
  rw [show (Tryd.f8.body.bind (blockOf 2)) = some (Code.block 2 _) from rfl] at hcd
  obtain rfl := Option.some.inj hcd
  clear hcd
  have HQ := Lib.hid hQ
  clear hQ
  have er := ge.er
  have hRl := er.len
  refine wp_block ?_
  refine wp_loop_mrg [12, 13, 14, 15, 16, 17, 160, 161, 162, 163, 164, 165, 166, 167, 168, 169, 170, 171, 172, 173, 174, 175, 176, 177, 178, 179, 180, 181, 182, 183, 184, 185, 186, 187, 188, 189, 190, 191, 192, 193, 194, 195, 196, 197, 198, 199, 200, 201, 202, 203, 204, 205, 206, 207, 208, 209, 210, 211, 212, 213, 214, 215, 216, 217, 218, 219, 220, 221, 222, 223] (fun mm f ds W1 => ds = ds0 ∧ ∃ (k : Nat), f 12 = .int .i64 k ∧ 2 - k = mm ∧ k ≤ 2 ∧ Below W.heap.size W W1) 2 ⟨rfl, 0, rfl, rfl, Nat.zero_le _, Below.refl _ _⟩ ?_
  intro c2' T2' hc2 hT2
  rintro mm f ds W1 ⟨rfl, k, hf12, rfl, hk, hB⟩
  replace hc2 := hc2.out
  subst hc2
  replace hT2 := hT2.out
  subst hT2
  generalize hFF : mrgF _ 0 _ _ = FF
  simp only [mrg_hit, mrg_miss, mrg_end, Nat.reduceBEq, Nat.reduceAdd] at hFF
  rw [hf12] at hFF
  subst hFF
  clear hf12
  have hs1 := hB.size
  by_cases hlt : k < 2
  · have q0 : decide ((k : Int) < 2) = true := decide_eq_true (by omega)
    refine wp_seq_k ?_
    intro Ka hKa
    have HKa := Lib.hid hKa
    clear hKa
    go_wp2_with fail
    refine HKa.out _ _ ?_
    clear HKa
    refine wp_seq_k ?_
    intro Kb hKb
    have HKb := Lib.hid hKb
    clear hKb
    refine wp_block ?_
    refine wp_seq_k ?_
    intro Kc hKc
    refine adds_reg22 W1 LA lc l i k ((hL.below hB).more hs1) hi hlt rfl ?_
    intro v z164 z165 z166 z167 z168 z169 z170 z171 z172 z173 z174 z175 z176 W2 hB2
    dsimp only
    refine hKc _ _ ?_
    clear hKc
    replace hB := hB.trans (hB2.mono hs1)
    clear hB2 hs1
    have g2 := (ge.next hB).go.gg
    cases hI : inR R v with
    | true =>
      obtain ⟨x, rfl, hx⟩ := inR_yes hI
      clear hI
      have xm0 : (0 : Int) ≤ (x : Int) := by omega
      have xm1 : ¬ ((m : Int) ≤ (x : Int)) := by omega
      have qa : decide ((x : Int) < 0) = false := decide_eq_false (by omega)
      have qb : decide ((m : Int) ≤ (x : Int)) = false := decide_eq_false xm1
      have HNB : Hid (Bs.els (Dg.row R x) 0 = Ge.nbr E x (List.range m)) := Lib.hid (er.nbr_all x).symm
      have kN := ghNeighbours_ok bg _ m R E.length x W2 g2 hx
      have hs2 := hB.size
      go_wp2_with fail
      refine kN.mono ?_
      rintro e w3 ⟨rfl, hbx⟩
      clear kN g2
      replace hB := hB.trans (hbx.mono hs2)
      clear hbx hs2
      obtain ⟨X, HX, xs, hbx, hsX⟩ := boxes1 w3 (bsc (Dg.row R x)) 63
      obtain ⟨X2, HX2, xs2, hbx2, hsX2⟩ := boxes1 X (bsc 0) 63
      have hX := HX.out
      have hX2 := HX2.out
      rw [zero8] at hX2
      replace hB := (hB.trans (hbx.mono hB.size)).trans (hbx2.mono (Nat.le_trans hB.size hbx.size))
      replace xs := xs.below hbx2
      clear hbx hbx2 hsX hsX2 xs2
      have kR := rNbr_ok EA ec E VA vc (List.range m) x X2 (ge.next hB).sl (by omega) ((hV.below hB).more hB.size) (by rw [List.length_range]; have := er.le; omega)
      rw [List.length_range] at kR
      go_wp2_with fail
      clear hX hX2 HX HX2
      refine kR.mono ?_
      rintro e w4 ⟨WA, wc, rfl, hown, hbx⟩
      clear kR
      have hW := own_sl hown
      have hWl : (Ge.nbr E x (List.range m)).length ≤ 512 := by rw [← HNB.out]; exact Bs.els_len _ _
      replace hB := hB.trans (hbx.mono hB.size)
      replace xs := xs.below hbx
      clear hbx hown
      obtain ⟨d0, d1, d2, d3, d4, d5, d6, d7⟩ := xs.w
      have kL := bsList_own (Dg.row R x) w4 (ht.kept hB)
      go_wp2_with fail
      clear d0 d1 d2 d3 d4 d5 d6 d7
      refine kL.mono ?_
      rintro e w5 ⟨AL, cL, rfl, hown, hbx⟩
      clear kL
      have hLs : Sl 1 icell w5 w5.heap.size AL (bsl (Ge.nbr E x (List.range m))) := by rw [← HNB.out]; exact Sl.of_own (by decide) hown
      replace hB := hB.trans (hbx.mono hB.size)
      replace hW := (hW.below hbx).more hbx.size
      rw [show (bsl (Bs.els (Dg.row R x) 0)).length = (Ge.nbr E x (List.range m)).length from by rw [bsl_len, HNB.out]]
      clear hbx hown xs
      have kE := lEq (ac := cL) (bc := wc) w5 rfl rfl hLs hW (by omega)
      go_wp2_with fail
      refine kE.mono ?_
      rintro e w6 ⟨rfl, hbx⟩
      clear kE hLs hW
      replace hB := hB.trans (hbx.mono hB.size)
      clear hbx
      have kD := ghDegree_ok bg _ m R E.length x w6 (ge.next hB).go.gg hx
      rw [show Bs.cnt (Dg.row R x) = (Ge.nbr E x (List.range m)).length from by rw [← HNB.out]; rfl] at kD
      have qz : (((Ge.nbr E x (List.range m)).length : Int) != ((Ge.nbr E x (List.range m)).length : Int)) = false := by simp
      go_wp2_with fail
      refine kD.mono ?_
      rintro e w7 ⟨rfl, hbx⟩
      clear kD
      replace hB := hB.trans (hbx.mono hB.size)
      clear hbx
      go_wp2_with fail
      refine HKb.out _ _ ?_
      clear HKb
      go_wp2_with fail
      exact ⟨_, rfl, rfl, 2 - (k + 1), by omega, by trivial, k + 1, rfl, rfl, by omega, hB⟩
    | false =>
      have kN := ghNeighbours_no bg _ m R E.length v W2 g2 hI
      have hs2 := hB.size
      have hq := eqSet0 Bs.Fit.zero
      rw [decide_eq_true (rfl : (0 : Nat) = 0)] at hq
      have HI := Lib.hid hI
      go_wp2_with fail
      refine kN.mono ?_
      rintro e w3 ⟨rfl, hbx⟩
      clear kN g2
      replace hB := hB.trans (hbx.mono hs2)
      clear hbx hs2
      have hor : v < 0 ∨ (m : Int) ≤ v := by
        have h1 := HI.out
        unfold inR at h1
        rw [Bool.and_eq_false_iff, decide_eq_false_iff_not, decide_eq_false_iff_not] at h1
        omega
      have HOR := Lib.hid hor
      clear hor hI
      obtain ⟨ra, hra⟩ : ∃ r, decide (v < 0) = r := ⟨_, rfl⟩
      cases ra with
      | true =>
        go_wp2_with fail
        have hB3 : Below W.heap.size W ((w3.alloc (.cells (bsc 0) 63)).alloc (.cells #[.int .u64 0, .int .u64 0, .int .u64 0, .int .u64 0, .int .u64 0, .int .u64 0, .int .u64 0, .int .u64 0] 63)) := (hB.alloc hB.size _).alloc (by have := hB.size; simp; omega) _
        change Calls _ _ _ ((w3.alloc (.cells (bsc 0) 63)).alloc (.cells #[.int .u64 0, .int .u64 0, .int .u64 0, .int .u64 0, .int .u64 0, .int .u64 0, .int .u64 0, .int .u64 0] 63)) _
        generalize (w3.alloc (.cells (bsc 0) 63)).alloc (.cells #[.int .u64 0, .int .u64 0, .int .u64 0, .int .u64 0, .int .u64 0, .int .u64 0, .int .u64 0, .int .u64 0] 63) = w4 at *
        refine (ghDegree_no bg _ m R E.length v w4 (ge.next hB3).go.gg HI.out).mono ?_
        rintro e w5 ⟨rfl, rfl⟩
        go_wp2_with fail
        refine HKb.out _ _ ?_
        clear HKb
        go_wp2_with fail
        exact ⟨_, rfl, rfl, 2 - (k + 1), by omega, by trivial, k + 1, rfl, rfl, by omega, hB3⟩
      | false =>
        have hrb : decide ((m : Int) ≤ v) = true := decide_eq_true (by
          have := HOR.out
          have := of_decide_eq_false hra
          omega)
        go_wp2_with fail
        have hB3 : Below W.heap.size W ((w3.alloc (.cells (bsc 0) 63)).alloc (.cells #[.int .u64 0, .int .u64 0, .int .u64 0, .int .u64 0, .int .u64 0, .int .u64 0, .int .u64 0, .int .u64 0] 63)) := (hB.alloc hB.size _).alloc (by have := hB.size; simp; omega) _
        change Calls _ _ _ ((w3.alloc (.cells (bsc 0) 63)).alloc (.cells #[.int .u64 0, .int .u64 0, .int .u64 0, .int .u64 0, .int .u64 0, .int .u64 0, .int .u64 0, .int .u64 0] 63)) _
        generalize (w3.alloc (.cells (bsc 0) 63)).alloc (.cells #[.int .u64 0, .int .u64 0, .int .u64 0, .int .u64 0, .int .u64 0, .int .u64 0, .int .u64 0, .int .u64 0] 63) = w4 at *
        refine (ghDegree_no bg _ m R E.length v w4 (ge.next hB3).go.gg HI.out).mono ?_
        rintro e w5 ⟨rfl, rfl⟩
        go_wp2_with fail
        refine HKb.out _ _ ?_
        clear HKb
        go_wp2_with fail
        exact ⟨_, rfl, rfl, 2 - (k + 1), by omega, by trivial, k + 1, rfl, rfl, by omega, hB3⟩
  · obtain rfl : k = 2 := by omega
    have q0 : decide (((2 : Nat) : Int) < 2) = false := rfl
    go_wp2_with fail
    exact HQ.out _ _ _ _ _ _ _ _ _ _ _ _ _ _ _ _ _ _ _ _ _ _ _ _ _ _ _ _ _ _ _ _ _ _ _ _ _ _ _ _ _ _ _ _ _ _ _ _ _ _ _ _ _ _ _ _ _ _ _ _ _ _ _ _ _ _ _ _ _ _ _ hB
end Go.Proofs.YtjoomgojnpcbeaaDoor
end

section
namespace Go.Proofs.YtjoomgojnpcbeaaDoor
open Go Go.RowKit Gh
set_option maxRecDepth 100000
theorem GO.two {W W' : World} {base g bg n cp : Nat} {R : List Nat} {k : Int} (h : GO W base g bg n cp R k) {g2 b2 : Nat} (hT : Two W W' g2 b2) (h1 : g ≠ g2 ∧ g ≠ b2 ∧ bg ≠ g2 ∧ bg ≠ b2) : GO W' base g bg n cp R k := by
  obtain ⟨w1, hg1, hg2⟩ := hT
  exact ⟨(h.box.grown hg1 (fun e => h1.2.2.1 (Option.some.inj e))).grown hg2 (fun e => h1.2.2.2 (Option.some.inj e)), (h.own.kept hg1 (.inr (fun e => h1.1 (Option.some.inj e)))).kept hg2 (.inr (fun e => h1.2.1 (Option.some.inj e))), h.len, h.far⟩
theorem box_two {W W' : World} {b : Nat} {cs : Array Value} {t : TypeId} (h : Box W b cs t) {g2 b2 : Nat} (hT : Two W W' g2 b2) (h1 : b ≠ g2 ∧ b ≠ b2) : Box W' b cs t := by
  obtain ⟨w1, hg1, hg2⟩ := hT
  exact (h.grown hg1 (fun e => h1.1 (Option.some.inj e))).grown hg2 (fun e => h1.2 (Option.some.inj e))
section
variable {W : World} {base g bg n cp : Nat} {R : List Nat} {E : List Ge.Ed} {k : Int}
theorem gComps (h : GO W base g bg n cp R k) (er : Ge.ER n E R) (ht : Tab64 W) : Calls Tryd.prog 14 #[gp bg] W fun e w' => (∃ A c ls, e = .returned (.slice A ls.length c) ∧ LL w' A ls ∧ ls.map (·.xs) = (Ge.comps E (List.range n)).map bsl) ∧ Below W.heap.size W w' := by
  refine (ghComponents_ok _ R W h.gg.v er.ok er.sy ht).mono ?_
  rintro e w' ⟨v, ls, rfl, hlo, hls, hb⟩
  obtain ⟨A, c, rfl, hll⟩ := hlo.sl_
  exact ⟨⟨A, c, ls, rfl, hll, by rw [hls, er.comps]⟩, hb⟩
theorem rComps {EA : Option Addr} {ec : Nat} (hE : W.ownsRow base 51 2 (.slice EA E.length ec) E.length (flat 2 ecell E)) (hEl : E.length ≤ 1000000) (VA : Option Addr) (vc : Nat) (hV : Sl 1 icell W W.heap.size VA (bsl (List.range n))) (hn : n ≤ 1000) : Calls Tryd.prog 15 #[.slice EA E.length ec, .slice VA n vc] W fun e w' => (∃ A c ls, e = .returned (.slice A ls.length c) ∧ LL w' A ls ∧ ls.map (·.xs) = (Ge.comps E (List.range n)).map bsl) ∧ Below W.heap.size W w' := by
  have k := rComps_ok EA ec E VA vc (List.range n) W (Sl.of_own (by decide) hE) hEl hV (by rw [List.length_range]; exact hn)
  rw [List.length_range] at k
  refine k.mono ?_
  rintro e w' ⟨v, ls, rfl, hlo, hls, hb⟩
  obtain ⟨A, c, rfl, hll⟩ := hlo.sl_
  exact ⟨⟨A, c, ls, rfl, hll, hls⟩, hb⟩
theorem gLen (h : GO W base g bg n cp R k) : Calls Tryd.prog 32 #[gp bg] W fun e w' => e = .returned (.int .i64 n) ∧ W = w' := by
  have := ghLen_ok bg _ cp R k W h.gg
  rw [h.len] at this
  exact this
end
set_option maxHeartbeats 64000000 in
theorem graphCopies_walk (n : Int) (LA : Option Addr) (lc : Nat) (l : List (Int × Int)) (x1 x2 y1 y2 : Int) (w : World) (ht : Tab64 w) (hL : Sl 2 dcell w w.heap.size LA l) :
    Calls Tryd.prog 9 #[.int .i64 n, .slice LA l.length lc, .agg #[.int .i64 x1, .int .i64 x2], .agg #[.int .i64 y1, .int .i64 y2]] w fun e w' => e = .returned (.bool true) ∧ Below w.heap.size w w' := by
  have hund : undef = Value.tuple #[] := rfl
  obtain ⟨V, HW, x6, x7, hB, hsV⟩ := boxes2 w #[.int .i64 x1, .int .i64 x2] 51 #[.int .i64 y1, .int .i64 y2] 51
  have hV := HW.out
  have htV := ht.kept hB
  have hLV := (hL.below hB).more hB.size
  have HSV := Lib.hid hsV
  clear hL ht hsV
  obtain ⟨r, g0⟩ : ∃ r, decide (n < 0) = r := ⟨_, rfl⟩
  cases r with
  | true =>
    go_enter Tryd.func9, Tryd.ntmps9
    go_wp2_with fail
    clear hV
    refine (known08_any V htV).mono ?_
    rintro e x9 ⟨rfl, hb9⟩
    have hbz := after_ hB hb9
    go_wp2_with fail
    go_ret
    exact ⟨rfl, hbz⟩
  | false =>
  obtain ⟨r, g1⟩ : ∃ r, decide ((20 : Int) < n) = r := ⟨_, rfl⟩
  cases r with
  | true =>
    go_enter Tryd.func9, Tryd.ntmps9
    go_wp2_with fail
    clear hV
    refine (known08_any V htV).mono ?_
    rintro e x9 ⟨rfl, hb9⟩
    have hbz := after_ hB hb9
    go_wp2_with fail
    go_ret
    exact ⟨rfl, hbz⟩
  | false =>
  obtain ⟨r, g2⟩ : ∃ r, decide ((20 : Int) < (l.length : Int)) = r := ⟨_, rfl⟩
  cases r with
  | true =>
    go_enter Tryd.func9, Tryd.ntmps9
    go_wp2_with fail
    clear hV
    refine (known08_any V htV).mono ?_
    rintro e x9 ⟨rfl, hb9⟩
    have hbz := after_ hB hb9
    go_wp2_with fail
    go_ret
    exact ⟨rfl, hbz⟩
  | false =>
  obtain ⟨m, rfl⟩ : ∃ m : Nat, n = m := ⟨n.toNat, by have := of_decide_eq_false g0; omega⟩
  have hm : m ≤ 20 := by have := of_decide_eq_false g1; omega
  have hl : l.length ≤ 20 := by have := of_decide_eq_false g2; omega
  have kB := lBuild_ok m LA lc l V hLV (by omega) (by omega)
  go_enter Tryd.func9, Tryd.ntmps9
  go_wp2_with fail
  clear hV
  refine kB.mono ?_
  rintro e w1 ⟨g, bg, R, EA, ec, rfl, ge, hb1⟩
  have hel := Ge.bld_len m l l.length (Nat.le_refl _)
  rw [List.take_length] at hel
  have go1 := ge.go
  have er := ge.er
  have oe := ge.own
  have bl := hb1
  have tb := htV.kept hb1
  have hlb := go1.lt
  have hfar := go1.far
  have hbgl := go1.box.lt
  replace x6 := x6.below hb1
  replace x7 := x7.below hb1
  have hVW := hb1.size
  have HTB := Lib.hid htV
  clear kB ge hb1 g0 g1 g2 htV hLV HW
  generalize Ge.bld m l = E at *
  have kC := ghCopy_ok V.heap.size g bg m m R E.length w1 go1 (by omega)
  go_wp2_with fail
  refine kC.mono ?_
  rintro e w2 ⟨bC, gC, cC, rfl, hgC, hbC, xC, oC, hfC, hbx⟩
  have gc : GO w2 w1.heap.size gC bC m cC R E.length := ⟨xC, oC, go1.len, hfC⟩
  clear kC xC oC
  replace go1 := go1.next hbx
  replace oe := own_below oe hbx
  replace bl := after_ bl hbx
  replace tb := tb.kept hbx
  replace x6 := x6.below hbx
  replace x7 := x7.below hbx
  clear hbx
  have qn : ((m : Int) != (m : Int)) = false := by simp
  have qe : ((E.length : Int) != (E.length : Int)) = false := by simp
  go_wp2_with fail
  refine (gLen gc).mono ?_
  rintro e w3 ⟨rfl, rfl⟩
  go_wp2_with fail
  refine (ghEdges_ok bC _ cC R E.length w2 gc.gg).mono ?_
  rintro e w4 ⟨rfl, rfl⟩
  obtain ⟨a0, a1⟩ := x6.c2
  have kA := rAddE_ok V.heap.size m EA ec E x1 x2 w2 oe (by omega) bl.size
  go_wp2_with fail
  clear a0 a1 qn qe
  refine kA.mono ?_
  rintro e w5 ⟨AA, ac, rfl, oa, hbx⟩
  clear kA
  replace go1 := go1.next hbx
  replace oe := own_below oe hbx
  replace bl := after_ bl hbx
  replace tb := tb.kept hbx
  replace x6 := x6.below hbx
  replace x7 := x7.below hbx
  replace gc := gc.next hbx
  clear hbx
  obtain ⟨b0, b1⟩ := x7.c2
  have kA := rAddE_ok V.heap.size m EA ec E y1 y2 w5 oe (by omega) bl.size
  go_wp2_with fail
  clear b0 b1
  refine kA.mono ?_
  rintro e w6 ⟨BA, bc, rfl, ob, hbx⟩
  clear kA
  replace go1 := go1.next hbx
  replace oe := own_below oe hbx
  replace bl := after_ bl hbx
  replace tb := tb.kept hbx
  replace x6 := x6.below hbx
  replace x7 := x7.below hbx
  replace gc := gc.next hbx
  replace oa := own_below oa hbx
  clear hbx
  obtain ⟨a0, a1⟩ := x6.c2
  have kG := ghAddE_ok V.heap.size g bg m m E R x1 x2 w6 go1 er (by omega)
  have ls1 := Ge.add_len m E x1 x2
  have ls2 := Ge.add_len m E y1 y2
  have k2 := fun W (h : GO W w1.heap.size gC bC m cC R E.length) => ghAddE_ok w1.heap.size gC bC m cC E R y1 y2 W h er (by omega)
  have K2 := Lib.hid k2
  clear k2
  generalize Ge.add m E x1 x2 = A1 at *
  generalize Ge.add m E y1 y2 = B1 at *
  obtain ⟨E1, e1⟩ := A1
  obtain ⟨E2, e2⟩ := B1
  dsimp only at oa ob kG ls1 ls2 K2 ⊢
  have q1 : (e1 != e1) = false := by simp
  have q2 : (e2 != e2) = false := by simp
  go_wp2_with fail
  clear a0 a1
  refine kG.mono ?_
  rintro e w7 ⟨R1, rfl, go2, er1, hT⟩
  clear kG
  have na1 := own_ne oa go1.own (by decide)
  have na2 := own_ne_box oa go1.box (by decide)
  have nb1 := own_ne ob go1.own (by decide)
  have nb2 := own_ne_box ob go1.box (by decide)
  have hs2 := HSV.out
  have hsw := bl.size
  replace oa := own_two oa hT na1 na2
  replace ob := own_two ob hT nb1 nb2
  replace gc := gc.two hT ⟨by omega, by omega, by omega, by omega⟩
  replace x6 := box_two x6 hT ⟨by omega, by omega⟩
  replace x7 := box_two x7 hT ⟨by omega, by omega⟩
  replace bl := below_two bl hT hsw (by omega) (by omega)
  clear na1 na2 nb1 nb2 go1 oe hT hsw hs2
  have k3 := K2.out _ gc
  clear K2
  obtain ⟨b0, b1⟩ := x7.c2
  go_wp2_with fail
  clear b0 b1
  refine k3.mono ?_
  rintro e w8 ⟨R2, rfl, gc2, er2, hT⟩
  clear k3
  have na1 := own_ne oa gc.own (by decide)
  have na2 := own_ne_box oa gc.box (by decide)
  have nb1 := own_ne ob gc.own (by decide)
  have nb2 := own_ne_box ob gc.box (by decide)
  have hsw := bl.size
  replace oa := own_two oa hT na1 na2
  replace ob := own_two ob hT nb1 nb2
  replace go2 := go2.two hT ⟨by omega, by omega, by omega, by omega⟩
  replace bl := below_two bl hT hsw (by omega) (by omega)
  have tb2 := HTB.out.kept bl
  clear na1 na2 nb1 nb2 gc hT hsw x6 x7 q1 q2
  go_wp2_with fail
  refine (gComps go2 er1 tb2).mono ?_
  rintro e v1a ⟨⟨PA, pc, pls, rfl, hpl, hpe⟩, hbx⟩
  replace go2 := go2.next hbx
  replace gc2 := gc2.next hbx
  replace oa := own_below oa hbx
  replace ob := own_below ob hbx
  replace bl := after_ bl hbx
  replace tb2 := tb2.kept hbx
  clear hbx
  go_wp2_with fail
  refine (rAll_sl m v1a (by omega)).mono ?_
  rintro e v1b ⟨⟨VA, vc, rfl, hV⟩, hbx⟩
  replace go2 := go2.next hbx
  replace gc2 := gc2.next hbx
  replace oa := own_below oa hbx
  replace ob := own_below ob hbx
  replace bl := after_ bl hbx
  replace tb2 := tb2.kept hbx
  replace hpl := hpl.next hbx
  clear hbx
  go_wp2_with fail
  refine (rComps oa (by omega) VA vc hV (by omega)).mono ?_
  rintro e v1c ⟨⟨QA, qc, qls, rfl, hql, hqe⟩, hbx⟩
  replace go2 := go2.next hbx
  replace gc2 := gc2.next hbx
  replace oa := own_below oa hbx
  replace ob := own_below ob hbx
  replace bl := after_ bl hbx
  replace tb2 := tb2.kept hbx
  replace hpl := hpl.next hbx
  replace hV := (hV.below hbx).more hbx.size
  clear hbx
  clear hV
  go_wp2_with fail
  refine (lAl v1c hpl hql hpe hqe (comps_le er1)).mono ?_
  rintro e v1d ⟨rfl, hbx⟩
  replace go2 := go2.next hbx
  replace gc2 := gc2.next hbx
  replace oa := own_below oa hbx
  replace ob := own_below ob hbx
  replace bl := after_ bl hbx
  replace tb2 := tb2.kept hbx
  replace hpl := hpl.next hbx
  replace hql := hql.next hbx
  clear hbx
  clear hpl hql
  clear hpe hqe
  go_wp2_with fail
  refine (gComps gc2 er2 tb2).mono ?_
  rintro e v2a ⟨⟨PA, pc, pls, rfl, hpl, hpe⟩, hbx⟩
  replace go2 := go2.next hbx
  replace gc2 := gc2.next hbx
  replace oa := own_below oa hbx
  replace ob := own_below ob hbx
  replace bl := after_ bl hbx
  replace tb2 := tb2.kept hbx
  clear hbx
  go_wp2_with fail
  refine (rAll_sl m v2a (by omega)).mono ?_
  rintro e v2b ⟨⟨VA, vc, rfl, hV⟩, hbx⟩
  replace go2 := go2.next hbx
  replace gc2 := gc2.next hbx
  replace oa := own_below oa hbx
  replace ob := own_below ob hbx
  replace bl := after_ bl hbx
  replace tb2 := tb2.kept hbx
  replace hpl := hpl.next hbx
  clear hbx
  go_wp2_with fail
  refine (rComps ob (by omega) VA vc hV (by omega)).mono ?_
  rintro e v2c ⟨⟨QA, qc, qls, rfl, hql, hqe⟩, hbx⟩
  replace go2 := go2.next hbx
  replace gc2 := gc2.next hbx
  replace oa := own_below oa hbx
  replace ob := own_below ob hbx
  replace bl := after_ bl hbx
  replace tb2 := tb2.kept hbx
  replace hpl := hpl.next hbx
  replace hV := (hV.below hbx).more hbx.size
  clear hbx
  clear hV
  go_wp2_with fail
  refine (lAl v2c hpl hql hpe hqe (comps_le er2)).mono ?_
  rintro e v2d ⟨rfl, hbx⟩
  replace go2 := go2.next hbx
  replace gc2 := gc2.next hbx
  replace oa := own_below oa hbx
  replace ob := own_below ob hbx
  replace bl := after_ bl hbx
  replace tb2 := tb2.kept hbx
  replace hpl := hpl.next hbx
  replace hql := hql.next hbx
  clear hbx
  clear hpl hql
  clear hpe hqe
  have qe1 : ((E1.length : Int) == (E1.length : Int)) = true := by simp
  have qe2 : ((E2.length : Int) == (E2.length : Int)) = true := by simp
  go_wp2_with fail
  refine (ghEdges_ok bg _ m R1 E1.length _ go2.gg).mono ?_
  rintro e v3 ⟨rfl, rfl⟩
  go_wp2_with fail
  refine (ghEdges_ok bC _ cC R2 E2.length _ gc2.gg).mono ?_
  rintro e v4 ⟨rfl, rfl⟩
  go_wp2_with fail
  refine (known08_any _ tb2).mono ?_
  rintro e x9 ⟨rfl, hbx⟩
  have hbz := after_ hB (after_ bl hbx)
  go_wp2_with fail
  go_ret
  exact ⟨rfl, hbz⟩
end Go.Proofs.YtjoomgojnpcbeaaDoor
end

section
namespace Go.Proofs.YtjoomgojnpcbeaaDoor
open Go Go.RowKit Gh
set_option maxRecDepth 100000
set_option maxHeartbeats 32000000 in
theorem adds_r13 {Q : Exit → Act → World → Prop} {cd : Code} {ds0 : List Deferred} {Z2 Z3 Z4 Z5 Z6 Z7 Za Zb Zc Zd Ze Zf Zg Zh Zi Zj Zk Zl Zm Zn Zo Zp Zq Zr Zs Zt Zu Zv Zw Zx Zy Zz Z10 Z11 Z12 Z13 Z14 Z15 Z16 Z17 Z18 Z19 Z1a Z1b Z1c Z1d Z1e Z1f Z1g Z1h Z1i Z1j Z1k Z1l Z1m Z1n Z1o Z1p Z1q Z1r Z1s Z1t Z1u Z1v Z1w Z1x Z1y Z1z Z20 Z21 Z22 Z23 Z24 Z25 Z26 Z27 Z28 Z29 Z2a Z2b Z2c Z2d Z2e Z2f Z2g Z2h Z2i Z2j Z2k Z2l Z2m Z2n Z2o Z2p Z2q Z2r Z2s Z2t Z2u Z2v Z2w Z2x Z2y Z2z Z30 Z31 Z32 Z33 Z34 Z35 Z36 Z37 Z38 Z39 Z3a Z3b Z3c Z3d Z3e Z3f Z3g Z3h Z3i Z3j Z3k Z3l Z3m Z3n Z3o Z3p Z3q Z3r Z3s Z3t Z3u Z3v Z3w Z3x Z3y Z3z Z40 Z41 Z42 Z43 Z44 Z45 Z46 Z47 Z48 Z49 Z4a Z4b Z4c Z4d Z4e Z4f Z4g Z4h Z4i Z4j Z4k Z4l Z4m Z4n Z4o Z4p Z4q Z4r Z4s Z4t Z4u Z4v Z4w Z4x Z4y Z4z Z50 Z51 Z52 Z53 Z54 Z55 Z56 Z57 Z58 Z59 Z5a Z5b Z5c Z5d Z5e Z5f Z5g Z5h Z5i Z5j Z5k Z5l Z5m Z5n Z5o Z5p Z5q Z5r Z5s Z5t Z5u Z5v Z5w Z5x Z5y Z5z Z60 Z61 Z62 Z63 Z64 Z65 Z66 Z67 Z68 Z69 Z6a Z6b Z6c Z6d Z6e Z6f Z6g Z6h Z6i Z6j Z6k Z6l : Value} (W : World) (base m : Nat) (E : List Ge.Ed) (EA : Option Addr) (ec : Nat) (LA : Option Addr) (lc : Nat) (l : List (Int × Int)) (i : Nat) (hE : W.ownsRow base 51 2 (.slice EA E.length ec) E.length (flat 2 ecell E)) (hEl : E.length ≤ 1000000) (hb : base ≤ W.heap.size) (hL : Sl 2 dcell W W.heap.size LA l) (hi : i < l.length) (hcd : (Tryd.f8.body.bind (regionOf 13)) = some cd)
    (hQ : ∀ (y64 y65 y66 y67 y68 y69 y70 y71 y72 y73 y74 y75 y76 y77 y78 y79 : Value) (EA' : Option Addr) (ec' : Nat) (W' : World), W'.ownsRow base 51 2 (.slice EA' (Ge.add m E l[i].1 l[i].2).1.length ec') (Ge.add m E l[i].1 l[i].2).1.length (flat 2 ecell (Ge.add m E l[i].1 l[i].2).1) → Below W.heap.size W W' → Q .normal ⟨#[.int .i64 (m : Nat), .slice LA l.length lc, Z2, Z3, Z4, Z5, Z6, Z7, .slice EA E.length ec, .int .i64 (i : Nat), .slice EA' (Ge.add m E l[i].1 l[i].2).1.length ec', .int .i64 (Ge.add m E l[i].1 l[i].2).2, Zc, Zd, Ze, Zf, Zg, Zh, Zi, Zj, Zk, Zl, Zm, Zn, Zo, Zp, Zq, Zr, Zs, Zt, Zu, Zv, Zw, Zx, Zy, Zz, Z10, Z11, Z12, Z13, Z14, Z15, Z16, Z17, Z18, Z19, Z1a, Z1b, Z1c, Z1d, Z1e, Z1f, Z1g, Z1h, Z1i, Z1j, Z1k, Z1l, Z1m, Z1n, Z1o, Z1p, Z1q, Z1r, y64, y65, y66, y67, y68, y69, y70, y71, y72, y73, y74, y75, y76, y77, y78, y79, Z28, Z29, Z2a, Z2b, Z2c, Z2d, Z2e, Z2f, Z2g, Z2h, Z2i, Z2j, Z2k, Z2l, Z2m, Z2n, Z2o, Z2p, Z2q, Z2r, Z2s, Z2t, Z2u, Z2v, Z2w, Z2x, Z2y, Z2z, Z30, Z31, Z32, Z33, Z34, Z35, Z36, Z37, Z38, Z39, Z3a, Z3b, Z3c, Z3d, Z3e, Z3f, Z3g, Z3h, Z3i, Z3j, Z3k, Z3l, Z3m, Z3n, Z3o, Z3p, Z3q, Z3r, Z3s, Z3t, Z3u, Z3v, Z3w, Z3x, Z3y, Z3z, Z40, Z41, Z42, Z43, Z44, Z45, Z46, Z47, Z48, Z49, Z4a, Z4b, Z4c, Z4d, Z4e, Z4f, Z4g, Z4h, Z4i, Z4j, Z4k, Z4l, Z4m, Z4n, Z4o, Z4p, Z4q, Z4r, Z4s, Z4t, Z4u, Z4v, Z4w, Z4x, Z4y, Z4z, Z50, Z51, Z52, Z53, Z54, Z55, Z56, Z57, Z58, Z59, Z5a, Z5b, Z5c, Z5d, Z5e, Z5f, Z5g, Z5h, Z5i, Z5j, Z5k, Z5l, Z5m, Z5n, Z5o, Z5p, Z5q, Z5r, Z5s, Z5t, Z5u, Z5v, Z5w, Z5x, Z5y, Z5z, Z60, Z61, Z62, Z63, Z64, Z65, Z66, Z67, Z68, Z69, Z6a, Z6b, Z6c, Z6d, Z6e, Z6f, Z6g, Z6h, Z6i, Z6j, Z6k, Z6l], ds0⟩ W') :
    cd.wp Tryd.prog Q ⟨#[.int .i64 (m : Nat), .slice LA l.length lc, Z2, Z3, Z4, Z5, Z6, Z7, .slice EA E.length ec, .int .i64 (i : Nat), Za, Zb, Zc, Zd, Ze, Zf, Zg, Zh, Zi, Zj, Zk, Zl, Zm, Zn, Zo, Zp, Zq, Zr, Zs, Zt, Zu, Zv, Zw, Zx, Zy, Zz, Z10, Z11, Z12, Z13, Z14, Z15, Z16, Z17, Z18, Z19, Z1a, Z1b, Z1c, Z1d, Z1e, Z1f, Z1g, Z1h, Z1i, Z1j, Z1k, Z1l, Z1m, Z1n, Z1o, Z1p, Z1q, Z1r, Z1s, Z1t, Z1u, Z1v, Z1w, Z1x, Z1y, Z1z, Z20, Z21, Z22, Z23, Z24, Z25, Z26, Z27, Z28, Z29, Z2a, Z2b, Z2c, Z2d, Z2e, Z2f, Z2g, Z2h, Z2i, Z2j, Z2k, Z2l, Z2m, Z2n, Z2o, Z2p, Z2q, Z2r, Z2s, Z2t, Z2u, Z2v, Z2w, Z2x, Z2y, Z2z, Z30, Z31, Z32, Z33, Z34, Z35, Z36, Z37, Z38, Z39, Z3a, Z3b, Z3c, Z3d, Z3e, Z3f, Z3g, Z3h, Z3i, Z3j, Z3k, Z3l, Z3m, Z3n, Z3o, Z3p, Z3q, Z3r, Z3s, Z3t, Z3u, Z3v, Z3w, Z3x, Z3y, Z3z, Z40, Z41, Z42, Z43, Z44, Z45, Z46, Z47, Z48, Z49, Z4a, Z4b, Z4c, Z4d, Z4e, Z4f, Z4g, Z4h, Z4i, Z4j, Z4k, Z4l, Z4m, Z4n, Z4o, Z4p, Z4q, Z4r, Z4s, Z4t, Z4u, Z4v, Z4w, Z4x, Z4y, Z4z, Z50, Z51, Z52, Z53, Z54, Z55, Z56, Z57, Z58, Z59, Z5a, Z5b, Z5c, Z5d, Z5e, Z5f, Z5g, Z5h, Z5i, Z5j, Z5k, Z5l, Z5m, Z5n, Z5o, Z5p, Z5q, Z5r, Z5s, Z5t, Z5u, Z5v, Z5w, Z5x, Z5y, Z5z, Z60, Z61, Z62, Z63, Z64, Z65, Z66, Z67, Z68, Z69, Z6a, Z6b, Z6c, Z6d, Z6e, Z6f, Z6g, Z6h, Z6i, Z6j, Z6k, Z6l], ds0⟩ W := by
  rw [show (Tryd.f8.body.bind (regionOf 13)) = some (Code.region 13 _ true) from rfl] at hcd
  obtain rfl := Option.some.inj hcd
  clear hcd
  have x0 : (0 : Int) ≤ (i : Int) := by omega
  have x1 : (i : Int) < (l.length : Int) := by omega
  obtain ⟨la, hla, hlb, a0, a1⟩ := hL.pair_at hi
  generalize l[i] = ab at *
  obtain ⟨a, b⟩ := ab
  dsimp only at a0 a1 hQ
  have HQ := Lib.hid hQ
  clear hQ
  have KA := Lib.hid (rAddE_ok base m EA ec E a b _ (own_below hE (Below.refl _ _).drew) hEl hb)
  generalize Ge.add m E a b = ad at *
  obtain ⟨E', er⟩ := ad
  dsimp only at KA HQ
  clear hE
  obtain rfl := hla
  refine wp_region_noPanic ?_
  go_region_law (go_simp; go_at_call 30; refine KA.out.mono ?_; rintro e w7 ⟨EA', ec', rfl, own7, hb7⟩)
  all_goals refine NoPanic.normal ?_
  all_goals exact HQ.out _ _ _ _ _ _ _ _ _ _ _ _ _ _ _ _ _ _ _ own7 (((Below.refl _ _).drew).trans hb7)
set_option maxHeartbeats 32000000 in
theorem adds_r14 {Q : Exit → Act → World → Prop} {cd : Code} {ds0 : List Deferred} {Z0 Z2 Z3 Z4 Z6 Z7 Z8 Za Zc Zd Ze Zf Zg Zh Zi Zj Zk Zl Zm Zn Zo Zp Zq Zr Zs Zt Zu Zv Zw Zx Zy Zz Z10 Z11 Z12 Z13 Z14 Z15 Z16 Z17 Z18 Z19 Z1a Z1b Z1c Z1d Z1e Z1f Z1g Z1h Z1i Z1j Z1k Z1l Z1m Z1n Z1o Z1p Z1q Z1r Z1s Z1t Z1u Z1v Z1w Z1x Z1y Z1z Z20 Z21 Z22 Z23 Z24 Z25 Z26 Z27 Z28 Z29 Z2a Z2b Z2c Z2d Z2e Z2f Z2g Z2h Z2i Z2j Z2k Z2l Z2m Z2n Z2o Z2p Z2q Z2r Z2s Z2t Z2u Z2v Z2w Z2x Z2y Z2z Z30 Z31 Z32 Z33 Z34 Z35 Z36 Z37 Z38 Z39 Z3a Z3b Z3c Z3d Z3e Z3f Z3g Z3h Z3i Z3j Z3k Z3l Z3m Z3n Z3o Z3p Z3q Z3r Z3s Z3t Z3u Z3v Z3w Z3x Z3y Z3z Z40 Z41 Z42 Z43 Z44 Z45 Z46 Z47 Z48 Z49 Z4a Z4b Z4c Z4d Z4e Z4f Z4g Z4h Z4i Z4j Z4k Z4l Z4m Z4n Z4o Z4p Z4q Z4r Z4s Z4t Z4u Z4v Z4w Z4x Z4y Z4z Z50 Z51 Z52 Z53 Z54 Z55 Z56 Z57 Z58 Z59 Z5a Z5b Z5c Z5d Z5e Z5f Z5g Z5h Z5i Z5j Z5k Z5l Z5m Z5n Z5o Z5p Z5q Z5r Z5s Z5t Z5u Z5v Z5w Z5x Z5y Z5z Z60 Z61 Z62 Z63 Z64 Z65 Z66 Z67 Z68 Z69 Z6a Z6b Z6c Z6d Z6e Z6f Z6g Z6h Z6i Z6j Z6k Z6l : Value} (W : World) (base g bg m : Nat) (R : List Nat) (E : List Ge.Ed) (LA : Option Addr) (lc : Nat) (l : List (Int × Int)) (i : Nat) (go0 : GO W base g bg m m R E.length) (er : Ge.ER m E R) (hEl : E.length ≤ 1000000) (hL : Sl 2 dcell W W.heap.size LA l) (hi : i < l.length) (hcd : (Tryd.f8.body.bind (regionOf 14)) = some cd)
    (hQ : ∀ (y80 y81 y82 y83 y84 y85 y86 y87 y88 y89 y90 y91 y92 : Value) (R' : List Nat) (W' : World), GO W' base g bg m m R' (Ge.add m E l[i].1 l[i].2).1.length → Ge.ER m (Ge.add m E l[i].1 l[i].2).1 R' → Two W.drew W' g bg → Q .normal ⟨#[Z0, .slice LA l.length lc, Z2, Z3, Z4, gp bg, Z6, Z7, Z8, .int .i64 (i : Nat), Za, .int .i64 (Ge.add m E l[i].1 l[i].2).2, Zc, Zd, Ze, Zf, Zg, Zh, Zi, Zj, Zk, Zl, Zm, Zn, Zo, Zp, Zq, Zr, Zs, Zt, Zu, Zv, Zw, Zx, Zy, Zz, Z10, Z11, Z12, Z13, Z14, Z15, Z16, Z17, Z18, Z19, Z1a, Z1b, Z1c, Z1d, Z1e, Z1f, Z1g, Z1h, Z1i, Z1j, Z1k, Z1l, Z1m, Z1n, Z1o, Z1p, Z1q, Z1r, Z1s, Z1t, Z1u, Z1v, Z1w, Z1x, Z1y, Z1z, Z20, Z21, Z22, Z23, Z24, Z25, Z26, Z27, y80, y81, y82, y83, y84, y85, y86, y87, y88, y89, y90, y91, y92, .bool false, Z2m, Z2n, Z2o, Z2p, Z2q, Z2r, Z2s, Z2t, Z2u, Z2v, Z2w, Z2x, Z2y, Z2z, Z30, Z31, Z32, Z33, Z34, Z35, Z36, Z37, Z38, Z39, Z3a, Z3b, Z3c, Z3d, Z3e, Z3f, Z3g, Z3h, Z3i, Z3j, Z3k, Z3l, Z3m, Z3n, Z3o, Z3p, Z3q, Z3r, Z3s, Z3t, Z3u, Z3v, Z3w, Z3x, Z3y, Z3z, Z40, Z41, Z42, Z43, Z44, Z45, Z46, Z47, Z48, Z49, Z4a, Z4b, Z4c, Z4d, Z4e, Z4f, Z4g, Z4h, Z4i, Z4j, Z4k, Z4l, Z4m, Z4n, Z4o, Z4p, Z4q, Z4r, Z4s, Z4t, Z4u, Z4v, Z4w, Z4x, Z4y, Z4z, Z50, Z51, Z52, Z53, Z54, Z55, Z56, Z57, Z58, Z59, Z5a, Z5b, Z5c, Z5d, Z5e, Z5f, Z5g, Z5h, Z5i, Z5j, Z5k, Z5l, Z5m, Z5n, Z5o, Z5p, Z5q, Z5r, Z5s, Z5t, Z5u, Z5v, Z5w, Z5x, Z5y, Z5z, Z60, Z61, Z62, Z63, Z64, Z65, Z66, Z67, Z68, Z69, Z6a, Z6b, Z6c, Z6d, Z6e, Z6f, Z6g, Z6h, Z6i, Z6j, Z6k, Z6l], ds0⟩ W') :
    cd.wp Tryd.prog Q ⟨#[Z0, .slice LA l.length lc, Z2, Z3, Z4, gp bg, Z6, Z7, Z8, .int .i64 (i : Nat), Za, .int .i64 (Ge.add m E l[i].1 l[i].2).2, Zc, Zd, Ze, Zf, Zg, Zh, Zi, Zj, Zk, Zl, Zm, Zn, Zo, Zp, Zq, Zr, Zs, Zt, Zu, Zv, Zw, Zx, Zy, Zz, Z10, Z11, Z12, Z13, Z14, Z15, Z16, Z17, Z18, Z19, Z1a, Z1b, Z1c, Z1d, Z1e, Z1f, Z1g, Z1h, Z1i, Z1j, Z1k, Z1l, Z1m, Z1n, Z1o, Z1p, Z1q, Z1r, Z1s, Z1t, Z1u, Z1v, Z1w, Z1x, Z1y, Z1z, Z20, Z21, Z22, Z23, Z24, Z25, Z26, Z27, Z28, Z29, Z2a, Z2b, Z2c, Z2d, Z2e, Z2f, Z2g, Z2h, Z2i, Z2j, Z2k, Z2l, Z2m, Z2n, Z2o, Z2p, Z2q, Z2r, Z2s, Z2t, Z2u, Z2v, Z2w, Z2x, Z2y, Z2z, Z30, Z31, Z32, Z33, Z34, Z35, Z36, Z37, Z38, Z39, Z3a, Z3b, Z3c, Z3d, Z3e, Z3f, Z3g, Z3h, Z3i, Z3j, Z3k, Z3l, Z3m, Z3n, Z3o, Z3p, Z3q, Z3r, Z3s, Z3t, Z3u, Z3v, Z3w, Z3x, Z3y, Z3z, Z40, Z41, Z42, Z43, Z44, Z45, Z46, Z47, Z48, Z49, Z4a, Z4b, Z4c, Z4d, Z4e, Z4f, Z4g, Z4h, Z4i, Z4j, Z4k, Z4l, Z4m, Z4n, Z4o, Z4p, Z4q, Z4r, Z4s, Z4t, Z4u, Z4v, Z4w, Z4x, Z4y, Z4z, Z50, Z51, Z52, Z53, Z54, Z55, Z56, Z57, Z58, Z59, Z5a, Z5b, Z5c, Z5d, Z5e, Z5f, Z5g, Z5h, Z5i, Z5j, Z5k, Z5l, Z5m, Z5n, Z5o, Z5p, Z5q, Z5r, Z5s, Z5t, Z5u, Z5v, Z5w, Z5x, Z5y, Z5z, Z60, Z61, Z62, Z63, Z64, Z65, Z66, Z67, Z68, Z69, Z6a, Z6b, Z6c, Z6d, Z6e, Z6f, Z6g, Z6h, Z6i, Z6j, Z6k, Z6l], ds0⟩ W := by
  rw [show (Tryd.f8.body.bind (regionOf 14)) = some (Code.region 14 _ true) from rfl] at hcd
  obtain rfl := Option.some.inj hcd
  clear hcd
  have x0 : (0 : Int) ≤ (i : Int) := by omega
  have x1 : (i : Int) < (l.length : Int) := by omega
  obtain ⟨la, hla, hlb, a0, a1⟩ := hL.pair_at hi
  generalize l[i] = ab at *
  obtain ⟨a, b⟩ := ab
  dsimp only at a0 a1 hQ
  have HQ := Lib.hid hQ
  clear hQ
  have KG := Lib.hid (ghAddE_ok base g bg m m E R a b _ (go0.next (Below.refl _ _).drew) er hEl)
  generalize Ge.add m E a b = ad at *
  obtain ⟨E', e1⟩ := ad
  dsimp only at KG HQ
  have qe : (e1 != e1) = false := by simp
  clear go0
  obtain rfl := hla
  refine wp_region_noPanic ?_
  go_region_law (go_simp; go_at_call 31; refine KG.out.mono ?_; rintro e w8 ⟨R', rfl, go8, er8, hT8⟩)
  all_goals refine NoPanic.normal ?_
  all_goals exact HQ.out _ _ _ _ _ _ _ _ _ _ _ _ _ _ _ go8 er8 hT8
set_option maxHeartbeats 32000000 in
theorem adds_round {Q : Exit → Act → World → Prop} {cd : Code} {ds0 : List Deferred} {Z2 Z3 Z4 Z6 Za Zb Zc Zd Ze Zf Zg Zh Zi Zj Zk Zl Zm Zn Zo Zp Zq Zr Zs Zt Zu Zv Zw Zx Zy Zz Z10 Z11 Z12 Z13 Z14 Z15 Z16 Z17 Z18 Z19 Z1a Z1b Z1c Z1d Z1e Z1f Z1g Z1h Z1i Z1j Z1k Z1l Z1m Z1n Z1o Z1p Z1q Z1r Z1s Z1t Z1u Z1v Z1w Z1x Z1y Z1z Z20 Z21 Z22 Z23 Z24 Z25 Z26 Z27 Z28 Z29 Z2a Z2b Z2c Z2d Z2e Z2f Z2g Z2h Z2i Z2j Z2k Z2l Z2m Z2n Z2o Z2p Z2q Z2r Z2s Z2t Z2u Z2v Z2w Z2x Z2y Z2z Z30 Z31 Z32 Z33 Z34 Z35 Z36 Z37 Z38 Z39 Z3a Z3b Z3c Z3d Z3e Z3f Z3g Z3h Z3i Z3j Z3k Z3l Z3m Z3n Z3o Z3p Z3q Z3r Z3s Z3t Z3u Z3v Z3w Z3x Z3y Z3z Z40 Z41 Z42 Z43 Z44 Z45 Z46 Z47 Z48 Z49 Z4a Z4b Z4c Z4d Z4e Z4f Z4g Z4h Z4i Z4j Z4k Z4l Z4m Z4n Z4o Z4p Z4q Z4r Z4s Z4t Z4u Z4v Z4w Z4x Z4y Z4z Z50 Z51 Z52 Z53 Z54 Z55 Z56 Z57 Z58 Z59 Z5a Z5b Z5c Z5d Z5e Z5f Z5g Z5h Z5i Z5j Z5k Z5l Z5m Z5n Z5o Z5p Z5q Z5r Z5s Z5t Z5u Z5v Z5w Z5x Z5y Z5z Z60 Z61 Z62 Z63 Z64 Z65 Z66 Z67 Z68 Z69 Z6a Z6b Z6c Z6d Z6e Z6f Z6g Z6h Z6i Z6j Z6k Z6l : Value} (w W : World) (g bg m : Nat) (R : List Nat) (E : List Ge.Ed) (EA : Option Addr) (ec : Nat) (VA : Option Addr) (vc baseV : Nat) (LA : Option Addr) (lc : Nat) (l : List (Int × Int)) (i : Nat) (ht : Tab64 w) (hB : Below w.heap.size w W) (ge : GE W w.heap.size g bg m R E EA ec) (hg : w.heap.size ≤ g ∧ g < bg) (hV : W.ownsRow baseV 3 1 (.slice VA m vc) m (flat 1 icell (bsl (List.range m)))) (hL : Sl 2 dcell w w.heap.size LA l) (hi : i < l.length) (hEl : E.length ≤ 999) (hcd : (Tryd.f8.body.bind (blockOf 1)) = some cd)
    (hQ : ∀ (y10 y11 y12 y13 y14 y15 y16 y17 y64 y65 y66 y67 y68 y69 y70 y71 y72 y73 y74 y75 y76 y77 y78 y79 y80 y81 y82 y83 y84 y85 y86 y87 y88 y89 y90 y91 y92 y93 y94 y95 y96 y97 y98 y99 y100 y101 y102 y103 y104 y105 y106 y107 y108 y109 y110 y111 y112 y113 y114 y115 y116 y117 y118 y119 y120 y121 y122 y123 y124 y125 y126 y127 y128 y129 y130 y131 y132 y133 y134 y135 y136 y137 y138 y139 y140 y141 y142 y143 y144 y145 y146 y147 y148 y149 y150 y151 y152 y153 y154 y155 y156 y157 y158 y159 y160 y161 y162 y163 y164 y165 y166 y167 y168 y169 y170 y171 y172 y173 y174 y175 y176 y177 y178 y179 y180 y181 y182 y183 y184 y185 y186 y187 y188 y189 y190 y191 y192 y193 y194 y195 y196 y197 y198 y199 y200 y201 y202 y203 y204 y205 y206 y207 y208 y209 y210 y211 y212 y213 y214 y215 y216 y217 y218 y219 y220 y221 y222 y223 : Value) (R' : List Nat) (EA' : Option Addr) (ec' : Nat) (W' : World), GE W' w.heap.size g bg m R' (Ge.add m E l[i].1 l[i].2).1 EA' ec' → Below w.heap.size w W' → W'.ownsRow baseV 3 1 (.slice VA m vc) m (flat 1 icell (bsl (List.range m))) → Q .normal ⟨#[.int .i64 (m : Nat), .slice LA l.length lc, Z2, Z3, Z4, gp bg, Z6, .slice VA m vc, .slice EA' (Ge.add m E l[i].1 l[i].2).1.length ec', .int .i64 (i : Nat), y10, y11, y12, y13, y14, y15, y16, y17, Zi, Zj, Zk, Zl, Zm, Zn, Zo, Zp, Zq, Zr, Zs, Zt, Zu, Zv, Zw, Zx, Zy, Zz, Z10, Z11, Z12, Z13, Z14, Z15, Z16, Z17, Z18, Z19, Z1a, Z1b, Z1c, Z1d, Z1e, Z1f, Z1g, Z1h, Z1i, Z1j, Z1k, Z1l, Z1m, Z1n, Z1o, Z1p, Z1q, Z1r, y64, y65, y66, y67, y68, y69, y70, y71, y72, y73, y74, y75, y76, y77, y78, y79, y80, y81, y82, y83, y84, y85, y86, y87, y88, y89, y90, y91, y92, y93, y94, y95, y96, y97, y98, y99, y100, y101, y102, y103, y104, y105, y106, y107, y108, y109, y110, y111, y112, y113, y114, y115, y116, y117, y118, y119, y120, y121, y122, y123, y124, y125, y126, y127, y128, y129, y130, y131, y132, y133, y134, y135, y136, y137, y138, y139, y140, y141, y142, y143, y144, y145, y146, y147, y148, y149, y150, y151, y152, y153, y154, y155, y156, y157, y158, y159, y160, y161, y162, y163, y164, y165, y166, y167, y168, y169, y170, y171, y172, y173, y174, y175, y176, y177, y178, y179, y180, y181, y182, y183, y184, y185, y186, y187, y188, y189, y190, y191, y192, y193, y194, y195, y196, y197, y198, y199, y200, y201, y202, y203, y204, y205, y206, y207, y208, y209, y210, y211, y212, y213, y214, y215, y216, y217, y218, y219, y220, y221, y222, y223, Z68, Z69, Z6a, Z6b, Z6c, Z6d, Z6e, Z6f, Z6g, Z6h, Z6i, Z6j, Z6k, Z6l], ds0⟩ W') :
    cd.wp Tryd.prog Q ⟨#[.int .i64 (m : Nat), .slice LA l.length lc, Z2, Z3, Z4, gp bg, Z6, .slice VA m vc, .slice EA E.length ec, .int .i64 (i : Nat), Za, Zb, Zc, Zd, Ze, Zf, Zg, Zh, Zi, Zj, Zk, Zl, Zm, Zn, Zo, Zp, Zq, Zr, Zs, Zt, Zu, Zv, Zw, Zx, Zy, Zz, Z10, Z11, Z12, Z13, Z14, Z15, Z16, Z17, Z18, Z19, Z1a, Z1b, Z1c, Z1d, Z1e, Z1f, Z1g, Z1h, Z1i, Z1j, Z1k, Z1l, Z1m, Z1n, Z1o, Z1p, Z1q, Z1r, Z1s, Z1t, Z1u, Z1v, Z1w, Z1x, Z1y, Z1z, Z20, Z21, Z22, Z23, Z24, Z25, Z26, Z27, Z28, Z29, Z2a, Z2b, Z2c, Z2d, Z2e, Z2f, Z2g, Z2h, Z2i, Z2j, Z2k, Z2l, Z2m, Z2n, Z2o, Z2p, Z2q, Z2r, Z2s, Z2t, Z2u, Z2v, Z2w, Z2x, Z2y, Z2z, Z30, Z31, Z32, Z33, Z34, Z35, Z36, Z37, Z38, Z39, Z3a, Z3b, Z3c, Z3d, Z3e, Z3f, Z3g, Z3h, Z3i, Z3j, Z3k, Z3l, Z3m, Z3n, Z3o, Z3p, Z3q, Z3r, Z3s, Z3t, Z3u, Z3v, Z3w, Z3x, Z3y, Z3z, Z40, Z41, Z42, Z43, Z44, Z45, Z46, Z47, Z48, Z49, Z4a, Z4b, Z4c, Z4d, Z4e, Z4f, Z4g, Z4h, Z4i, Z4j, Z4k, Z4l, Z4m, Z4n, Z4o, Z4p, Z4q, Z4r, Z4s, Z4t, Z4u, Z4v, Z4w, Z4x, Z4y, Z4z, Z50, Z51, Z52, Z53, Z54, Z55, Z56, Z57, Z58, Z59, Z5a, Z5b, Z5c, Z5d, Z5e, Z5f, Z5g, Z5h, Z5i, Z5j, Z5k, Z5l, Z5m, Z5n, Z5o, Z5p, Z5q, Z5r, Z5s, Z5t, Z5u, Z5v, Z5w, Z5x, Z5y, Z5z, Z60, Z61, Z62, Z63, Z64, Z65, Z66, Z67, Z68, Z69, Z6a, Z6b, Z6c, Z6d, Z6e, Z6f, Z6g, Z6h, Z6i, Z6j, Z6k, Z6l], ds0⟩ W := by
  rw [show (Tryd.f8.body.bind (blockOf 1)) = some (Code.block 1 _) from rfl] at hcd
  obtain rfl := Option.some.inj hcd
  clear hcd
  have HQ := Lib.hid hQ
  clear hQ
  have hbs := hB.size
  have hal := Ge.add_len m E l[i].1 l[i].2
  refine wp_block ?_
  refine wp_seq_k ?_
  intro Ka hKa
  refine adds_r13 W w.heap.size m E EA ec LA lc l i ge.own (by omega) hbs ((hL.below hB).more hbs) hi rfl ?_
  intro y64 y65 y66 y67 y68 y69 y70 y71 y72 y73 y74 y75 y76 y77 y78 y79 EA' ec' W2 own2 hb2
  dsimp only
  refine hKa _ _ ?_
  clear hKa
  have go2 := ge.go.next hb2
  have er := ge.er
  have hV2 := own_below hV hb2
  replace hB := after_ hB hb2
  clear ge hV hb2 hbs
  have hbs := hB.size
  refine wp_seq_k ?_
  intro Kb hKb
  have HKb := Lib.hid hKb
  clear hKb
  refine wp_seq_k ?_
  intro Kc hKc
  have HKc := Lib.hid hKc
  clear hKc
  refine adds_r14 W2 w.heap.size g bg m R E LA lc l i go2 er (by omega) ((hL.below hB).more hbs) hi rfl ?_
  intro y80 y81 y82 y83 y84 y85 y86 y87 y88 y89 y90 y91 y92 R' W3 go3 er3 hT
  dsimp only
  refine HKc.out _ _ ?_
  clear HKc
  have n1 := own_ne own2 go2.own (by decide)
  have n2 := own_ne_box own2 go2.box (by decide)
  have n3 := own_ne hV2 go2.own (by decide)
  have n4 := own_ne_box hV2 go2.box (by decide)
  have own3 := own_two (own_below own2 (Below.refl _ _).drew) hT n1 n2
  have hV3 := own_two (own_below hV2 (Below.refl _ _).drew) hT n3 n4
  have hB3 := below_two hB.drew hT hbs hg.1 (by omega)
  clear n1 n2 n3 n4 own2 hV2 hT go2 hB hbs er
  have ge3 : GE W3 w.heap.size g bg m R' (Ge.add m E l[i].1 l[i].2).1 EA' ec' := ⟨go3, er3, own3⟩
  clear go3 er3 own3
  have x0 : (0 : Int) ≤ (i : Int) := by omega
  have x1 : (i : Int) < (l.length : Int) := by omega
  obtain ⟨E', hE'⟩ : ∃ E', (Ge.add m E l[i].1 l[i].2).1 = E' := ⟨_, rfl⟩
  rw [hE'] at ge3 hal HQ
  simp only [hE']
  clear hE'
  go_wp2_with fail
  refine HKb.out _ _ ?_
  clear HKb
  have hs3 := hB3.size
  have qm : ((m : Int) != (m : Int)) = false := by simp
  have qE : ((E'.length : Int) != (E'.length : Int)) = false := by simp
  have hL3 := (hL.below hB3).more hs3
  obtain ⟨la, hla, hlb, a0, a1⟩ := hL3.pair_at hi
  obtain ⟨ab, hab⟩ : ∃ ab, l[i] = ab := ⟨_, rfl⟩
  have HAB := Lib.hid hab
  rw [hab] at a0 a1
  clear hab
  obtain ⟨a, b⟩ := ab
  dsimp only at a0 a1
  have er3 := ge3.er
  obtain ⟨r, hr⟩ : ∃ r, Ge.has E' a b = r := ⟨_, rfl⟩
  have HR1 : Hid (hasB R' a b = r) := Lib.hid (by rw [er3.hasB, hr])
  have HR2 : Hid (hasB R' b a = r) := Lib.hid (by rw [er3.hasB, Ge.has_comm, hr])
  have HR3 := Lib.hid hr
  clear hr
  have qr : (r != r) = false := by simp
  obtain rfl := hla
  refine wp_seq_k ?_
  intro Kd hKd
  have HKd := Lib.hid hKd
  clear hKd
  go_wp2_with fail
  refine HKd.out _ _ ?_
  clear HKd
  refine wp_seq_k ?_
  intro Ke hKe
  have HKe := Lib.hid hKe
  clear hKe
  refine wp_seq_k ?_
  intro Kg hKg
  have HKg := Lib.hid hKg
  clear hKg
  have kLn : Hid (∀ u : Kept W3.heap.size W3, Calls Tryd.prog 32 #[gp bg] u.val fun e w' => e = .returned (.int .i64 m) ∧ Below u.val.heap.size u.val w') := Lib.hid (fun u => (gLen (ge3.go.next u.h)).mono (by rintro e w' ⟨rfl, rfl⟩; exact ⟨rfl, Below.refl _ _⟩))
  have kEd : Hid (∀ u : Kept W3.heap.size W3, Calls Tryd.prog 33 #[gp bg] u.val fun e w' => e = .returned (.int .i64 E'.length) ∧ Below u.val.heap.size u.val w') := Lib.hid (fun u => (ghEdges_ok bg _ m R' E'.length _ (ge3.go.next u.h).gg).mono (by rintro e w' ⟨rfl, rfl⟩; exact ⟨rfl, Below.refl _ _⟩))
  have kHa : Hid (∀ u : Kept W3.heap.size W3, Calls Tryd.prog 28 #[gp bg, .int .i64 a, .int .i64 b] u.val fun e w' => e = .returned (.bool r) ∧ Below u.val.heap.size u.val w') := Lib.hid (fun u => by rw [← HR1.out]; exact ghHasB_ok bg _ m R' E'.length a b u.val (ge3.go.next u.h).gg er3.ok)
  have kHb : Hid (∀ u : Kept W3.heap.size W3, Calls Tryd.prog 28 #[gp bg, .int .i64 b, .int .i64 a] u.val fun e w' => e = .returned (.bool r) ∧ Below u.val.heap.size u.val w') := Lib.hid (fun u => by rw [← HR2.out]; exact ghHasB_ok bg _ m R' E'.length b a u.val (ge3.go.next u.h).gg er3.ok)
  have kRf : Hid (∀ u : Kept W3.heap.size W3, Calls Tryd.prog 34 #[.slice EA' E'.length ec', .int .i64 a, .int .i64 b] u.val fun e w' => e = .returned (.bool r) ∧ Below u.val.heap.size u.val w') := Lib.hid (fun u => by rw [← HR3.out]; exact (rHas_ok EA' ec' E' a b u.val (ge3.next u.h).sl (by omega)).mono (by rintro e w' ⟨rfl, rfl⟩; exact ⟨rfl, Below.refl _ _⟩))
  have HGE := Lib.hid ge3
  clear HR1 HR2 HR3 er3
  go_wp2_with fail
  dsimp only [List.append]
  refine wp_region_kept W3.heap.size W3 (by kernel_rfl) (by kernel_rfl) (Below.refl _ _) ?_
  repeat (go_big_quiet_step (first | (go_at_call 32; exact Kept.calls (Nat.le_refl _) (kLn.out _)) | (go_at_call 33; exact Kept.calls (Nat.le_refl _) (kEd.out _)) | (go_at_call 34; exact Kept.calls (Nat.le_refl _) (kRf.out _)) | (go_at_call 28; first | (with_reducible exact Kept.calls (Nat.le_refl _) (kHa.out _)) | (with_reducible exact Kept.calls (Nat.le_refl _) (kHb.out _)))))
  refine wpQuiet_nil ?_
  rintro w6 ⟨⟨_, hb5⟩, rfl⟩
  clear kLn kEd kHa kHb kRf
  replace ge3 := ge3.next hb5
  replace hB3 := after_ hB3 hb5
  replace hV3 := own_below hV3 hb5
  replace hL3 := (hL3.below hb5).more hb5.size
  clear hb5 HGE hlb a0 a1
  go_wp2_with fail
  refine HKg.out _ _ ?_
  clear HKg
  go_wp2_with fail
  refine HKe.out _ _ ?_
  clear HKe
  refine wp_seq_k ?_
  intro Kf hKf
  have HKf := Lib.hid hKf
  clear hKf
  go_wp2_with fail
  refine HKf.out _ _ ?_
  clear HKf
  refine adds_in _ w.heap.size g bg m R' E' EA' ec' VA vc (some la) lc l i ge3 (Sl.of_own (by decide) hV3) hL3 hi (ht.kept hB3) (by omega) rfl ?_
  intro y12 y13 y14 y15 y16 y17 y160 y161 y162 y163 y164 y165 y166 y167 y168 y169 y170 y171 y172 y173 y174 y175 y176 y177 y178 y179 y180 y181 y182 y183 y184 y185 y186 y187 y188 y189 y190 y191 y192 y193 y194 y195 y196 y197 y198 y199 y200 y201 y202 y203 y204 y205 y206 y207 y208 y209 y210 y211 y212 y213 y214 y215 y216 y217 y218 y219 y220 y221 y222 y223 W7 hb7
  dsimp only
  exact HQ.out _ _ _ _ _ _ _ _ _ _ _ _ _ _ _ _ _ _ _ _ _ _ _ _ _ _ _ _ _ _ _ _ _ _ _ _ _ _ _ _ _ _ _ _ _ _ _ _ _ _ _ _ _ _ _ _ _ _ _ _ _ _ _ _ _ _ _ _ _ _ _ _ _ _ _ _ _ _ _ _ _ _ _ _ _ _ _ _ _ _ _ _ _ _ _ _ _ _ _ _ _ _ _ _ _ _ _ _ _ _ _ _ _ _ _ _ _ _ _ _ _ _ _ _ _ _ _ _ _ _ _ _ _ _ _ _ _ _ _ _ _ _ _ _ _ _ _ _ _ _ _ _ _ _ _ _ _ _ _ _ _ _ _ _ _ _ _ _ _ _ _ _ (ge3.next hb7) (after_ hB3 hb7) (own_below hV3 hb7)
set_option maxHeartbeats 64000000 in
theorem graphAdds_walk (n : Int) (LA : Option Addr) (lc : Nat) (l : List (Int × Int)) (w : World) (ht : Tab64 w) (hL : Sl 2 dcell w w.heap.size LA l) :
    Calls Tryd.prog 8 #[.int .i64 n, .slice LA l.length lc] w fun e w' => e = .returned (.bool true) ∧ Below w.heap.size w w' := by
  have hund : undef = Value.tuple #[] := rfl
  obtain ⟨r, g0⟩ : ∃ r, decide (n < -2) = r := ⟨_, rfl⟩
  cases r with
  | true =>
    go_enter Tryd.func8, Tryd.ntmps8
    go_wp2_with fail
    refine (known08_any w ht).mono ?_
    rintro e x9 ⟨rfl, hb9⟩
    go_wp2_with fail
    go_ret
    exact ⟨rfl, hb9⟩
  | false =>
  obtain ⟨r, g1⟩ : ∃ r, decide ((520 : Int) < n) = r := ⟨_, rfl⟩
  cases r with
  | true =>
    go_enter Tryd.func8, Tryd.ntmps8
    go_wp2_with fail
    refine (known08_any w ht).mono ?_
    rintro e x9 ⟨rfl, hb9⟩
    go_wp2_with fail
    go_ret
    exact ⟨rfl, hb9⟩
  | false =>
  obtain ⟨r, g2⟩ : ∃ r, decide ((30 : Int) < (l.length : Int)) = r := ⟨_, rfl⟩
  cases r with
  | true =>
    go_enter Tryd.func8, Tryd.ntmps8
    go_wp2_with fail
    refine (known08_any w ht).mono ?_
    rintro e x9 ⟨rfl, hb9⟩
    go_wp2_with fail
    go_ret
    exact ⟨rfl, hb9⟩
  | false =>
  obtain ⟨r, g3⟩ : ∃ r, decide (n < 0) = r := ⟨_, rfl⟩
  cases r with
  | true =>
    have HOR : Hid (n < 0 ∨ 512 < n) := Lib.hid (.inl (of_decide_eq_true g3))
    have kN := ghNew_no n w HOR.out
    go_enter Tryd.func8, Tryd.ntmps8
    go_wp2_with fail
    refine kN.mono ?_
    rintro e w1 ⟨rfl, rfl⟩
    go_wp2_with fail
    refine (known08_any w ht).mono ?_
    rintro e x9 ⟨rfl, hb9⟩
    go_wp2_with fail
    go_ret
    exact ⟨rfl, hb9⟩
  | false =>
  obtain ⟨r, g4⟩ : ∃ r, decide ((512 : Int) < n) = r := ⟨_, rfl⟩
  cases r with
  | true =>
    have HOR : Hid (n < 0 ∨ 512 < n) := Lib.hid (.inr (of_decide_eq_true g4))
    have kN := ghNew_no n w HOR.out
    go_enter Tryd.func8, Tryd.ntmps8
    go_wp2_with fail
    refine kN.mono ?_
    rintro e w1 ⟨rfl, rfl⟩
    go_wp2_with fail
    refine (known08_any w ht).mono ?_
    rintro e x9 ⟨rfl, hb9⟩
    go_wp2_with fail
    go_ret
    exact ⟨rfl, hb9⟩
  | false =>
  obtain ⟨m, rfl⟩ : ∃ m : Nat, n = m := ⟨n.toNat, by have := of_decide_eq_false g3; omega⟩
  have hm : m ≤ 512 := by have := of_decide_eq_false g4; omega
  have hl : l.length ≤ 30 := by have := of_decide_eq_false g2; omega
  have kN := ghNew_ok m w hm
  go_enter Tryd.func8, Tryd.ntmps8
  go_wp2_with fail
  refine kN.mono ?_
  rintro e w1 ⟨bg, g, rfl, hg1, hg2, hbox, hown, hb1⟩
  have er0 : Ge.ER m (Ge.bld m (l.take 0)) (List.replicate m 0) := Ge.ER.nil hm
  have ge0 : GE w1 w.heap.size g bg m (List.replicate m 0) (Ge.bld m (l.take 0)) none 0 := ⟨⟨hbox, hown, by simp, hg2⟩, er0, own_nil _ _ _ 2 ecell⟩
  clear hbox hown er0 kN
  have kA := rAll_ok m w1 (by omega)
  go_wp2_with fail
  refine kA.mono ?_
  rintro e w2 ⟨VA, vc, rfl, hV, hbx⟩
  rw [List.length_range] at hV
  replace ge0 := ge0.next hbx
  replace hb1 := after_ hb1 hbx
  clear hbx kA
  rw [List.length_range]
  go_wp2_with fail
  clear g0 g1 g2 g3 g4 hund
  refine wp_loop_mrg [8, 9, 10, 11, 12, 13, 14, 15, 16, 17, 58, 59, 60, 61, 62, 63, 64, 65, 66, 67, 68, 69, 70, 71, 72, 73, 74, 75, 76, 77, 78, 79, 80, 81, 82, 83, 84, 85, 86, 87, 88, 89, 90, 91, 92, 93, 94, 95, 96, 97, 98, 99, 100, 101, 102, 103, 104, 105, 106, 107, 108, 109, 110, 111, 112, 113, 114, 115, 116, 117, 118, 119, 120, 121, 122, 123, 124, 125, 126, 127, 128, 129, 130, 131, 132, 133, 134, 135, 136, 137, 138, 139, 140, 141, 142, 143, 144, 145, 146, 147, 148, 149, 150, 151, 152, 153, 154, 155, 156, 157, 158, 159, 160, 161, 162, 163, 164, 165, 166, 167, 168, 169, 170, 171, 172, 173, 174, 175, 176, 177, 178, 179, 180, 181, 182, 183, 184, 185, 186, 187, 188, 189, 190, 191, 192, 193, 194, 195, 196, 197, 198, 199, 200, 201, 202, 203, 204, 205, 206, 207, 208, 209, 210, 211, 212, 213, 214, 215, 216, 217, 218, 219, 220, 221, 222, 223] (fun mm f ds W0 => ds = [] ∧ ∃ (k : Nat) (R : List Nat) (EA : Option Addr) (ec : Nat), f 9 = .int .i64 k ∧ f 8 = .slice EA (Ge.bld m (l.take k)).length ec ∧ l.length - k = mm ∧ k ≤ l.length ∧ GE W0 w.heap.size g bg m R (Ge.bld m (l.take k)) EA ec ∧ Below w.heap.size w W0 ∧ W0.ownsRow w1.heap.size 3 1 (.slice VA m vc) m (flat 1 icell (bsl (List.range m)))) l.length ⟨rfl, 0, _, none, 0, rfl, rfl, rfl, Nat.zero_le _, ge0, hb1, hV⟩ ?_
  clear ge0 hb1 hV
  intro c1' T1' hc2 hT2
  rintro mm f ds W0 ⟨rfl, k, R, EA, ec, hf9, hf8, rfl, hk, ge, hB, hV⟩
  replace hc2 := hc2.out
  subst hc2
  replace hT2 := hT2.out
  subst hT2
  generalize hF : mrgF _ 0 _ _ = F
  simp only [mrg_hit, mrg_miss, mrg_end, Nat.reduceBEq, Nat.reduceAdd] at hF
  rw [hf9, hf8] at hF
  subst hF
  clear hf9 hf8
  have hEk := Ge.bld_len m l k hk
  by_cases hkl : k < l.length
  · have x0 : (0 : Int) ≤ (k : Int) := by omega
    have x1 : (k : Int) < (l.length : Int) := by omega
    have q0 : decide ((k : Int) < (l.length : Int)) = true := decide_eq_true x1
    have HN : Hid ((Ge.add m (Ge.bld m (l.take k)) l[k].1 l[k].2).1 = Ge.bld m (l.take (k + 1))) := Lib.hid (by rw [List.take_succ_eq_append_getElem hkl, Ge.bld_snoc])
    refine wp_seq_k ?_
    intro Ka hKa
    have HKa := Lib.hid hKa
    clear hKa
    go_wp2_with fail
    refine HKa.out _ _ ?_
    clear HKa
    refine wp_seq_k ?_
    intro Kb hKb
    refine adds_round w W0 g bg m R _ EA ec VA vc w1.heap.size LA lc l k ht hB ge ⟨hg1, hg2⟩ hV hL hkl (by omega) rfl ?_
    intro y10 y11 y12 y13 y14 y15 y16 y17 y64 y65 y66 y67 y68 y69 y70 y71 y72 y73 y74 y75 y76 y77 y78 y79 y80 y81 y82 y83 y84 y85 y86 y87 y88 y89 y90 y91 y92 y93 y94 y95 y96 y97 y98 y99 y100 y101 y102 y103 y104 y105 y106 y107 y108 y109 y110 y111 y112 y113 y114 y115 y116 y117 y118 y119 y120 y121 y122 y123 y124 y125 y126 y127 y128 y129 y130 y131 y132 y133 y134 y135 y136 y137 y138 y139 y140 y141 y142 y143 y144 y145 y146 y147 y148 y149 y150 y151 y152 y153 y154 y155 y156 y157 y158 y159 y160 y161 y162 y163 y164 y165 y166 y167 y168 y169 y170 y171 y172 y173 y174 y175 y176 y177 y178 y179 y180 y181 y182 y183 y184 y185 y186 y187 y188 y189 y190 y191 y192 y193 y194 y195 y196 y197 y198 y199 y200 y201 y202 y203 y204 y205 y206 y207 y208 y209 y210 y211 y212 y213 y214 y215 y216 y217 y218 y219 y220 y221 y222 y223 R' EA' ec' W' ge' hB' hV'
    dsimp only
    refine hKb _ _ ?_
    clear hKb ge hB hV
    rw [HN.out] at ge'
    rw [HN.out]
    clear HN
    go_wp2_with fail
    exact ⟨_, rfl, rfl, l.length - (k + 1), by omega, by trivial, k + 1, R', EA', ec', rfl, rfl, rfl, hkl, ge', hB', hV'⟩
  · obtain rfl : k = l.length := by omega
    have q0 : decide ((l.length : Int) < (l.length : Int)) = false := decide_eq_false (by omega)
    rw [List.take_length] at ge hEk ⊢
    generalize Ge.bld m l = E at *
    have qm : ((m : Int) == (m : Int)) = true := by simp
    have qE : ((E.length : Int) == (E.length : Int)) = true := by simp
    have htk := ht.kept hB
    clear hV
    go_wp2_with fail
    refine (gLen ge.go).mono ?_
    rintro e w4 ⟨rfl, rfl⟩
    go_wp2_with fail
    refine (ghEdges_ok bg _ m R E.length _ ge.go.gg).mono ?_
    rintro e w4 ⟨rfl, rfl⟩
    go_wp2_with fail
    refine (known08_any _ htk).mono ?_
    rintro e x9 ⟨rfl, hbx⟩
    have hbz := after_ hB hbx
    go_wp2_with fail
    go_ret
    exact ⟨rfl, hbz⟩
end Go.Proofs.YtjoomgojnpcbeaaDoor
end

section
namespace Go.Proofs.YtjoomgojnpcbeaaDoor
open Go Go.RowKit Gh
set_option maxRecDepth 100000
set_option maxHeartbeats 8000000 in
theorem ngColour_ok (P : Option Addr) (OA : Option Addr) (oc no : Nat) (w : World) (h : NG w (.pointer P)) : Calls Tryd.prog 24 #[.pointer P, .slice OA no oc] w fun e w' => e = .returned (.tuple #[.slice none 0 0, .int .i64 1]) ∧ Below w.heap.size w w' := by
  have kV := ngValid_ok (.pointer P) w h
  refine calls_marks Tryd.func24 rfl ?_
  simp only [Tryd.ntmps24, List.size_toArray, List.length_cons, List.length_nil, Nat.reduceAdd, Nat.reduceSub, Array.replicate_succ, Array.replicate_zero, List.push_toArray, List.append_toArray, List.nil_append, List.cons_append]
  go_wp2_with fail
  refine kV.mono ?_
  rintro e w1 ⟨rfl, rfl⟩
  go_wp2_with fail
  exact leaves_marks (B := w.heap.size) (C := w.heap.size) _ _ Marks.none_ (fun W' hs => ⟨.tuple #[.slice none 0 0, .int .i64 1], by simp [results, Tryd.results24, go_sem], rfl, hs.below⟩)
section
variable {W : World} {P : Option Addr}
theorem ng_gv (h : NG W (.pointer P)) : GV W (.pointer P) [] := .inr ⟨rfl, h⟩
theorem row_nil (v : Nat) : Dg.row [] v = 0 := rfl
theorem fit_nil : ∀ v x, (Dg.row [] v).testBit x = true → x < ([] : List Nat).length := fun v x h => by rw [row_nil, Nat.zero_testBit] at h; cases h
theorem sy_nil : ∀ a b, (Dg.row [] a).testBit b = true → (Dg.row [] b).testBit a = true := fun a b h => by rw [row_nil, Nat.zero_testBit] at h; cases h
theorem nil_of {α β : Type} {f : α → β} {l : List α} (h : l.map f = []) : l = [] := List.map_eq_nil_iff.1 h
theorem nBlocks (h : NG W (.pointer P)) (ht : Tab64 W) : Calls Tryd.prog 17 #[.pointer P] W fun e w' => (∃ A c CA cc, e = .returned (.tuple #[.slice A 0 c, .slice CA 0 cc])) ∧ Below W.heap.size W w' := by
  refine (ghBlocks_ok P [] W (ng_gv h) (by simp) fit_nil ht).mono ?_
  rintro e w' ⟨v, ls, CA, cc, rfl, hlo, hls, hS, hb⟩
  rw [show (blks []).map bsl = [] from by kernel_rfl] at hls
  obtain rfl := nil_of hls
  obtain ⟨A, c, rfl, -⟩ := hlo.sl_
  exact ⟨⟨A, c, CA, cc, rfl⟩, hb⟩
theorem nDegen (h : NG W (.pointer P)) (ht : Tab64 W) : Calls Tryd.prog 20 #[.pointer P] W fun e w' => (∃ A c, e = .returned (.tuple #[.slice A 0 c, .int .i64 0])) ∧ Below W.heap.size W w' := by
  refine (ghDegeneracy_ok P [] W (ng_gv h) (by simp) fit_nil sy_nil ht).mono ?_
  rintro e w' ⟨A, c, rfl, hS, hb⟩
  exact ⟨⟨A, c, rfl⟩, hb⟩
theorem nComps (h : NG W (.pointer P)) (ht : Tab64 W) : Calls Tryd.prog 14 #[.pointer P] W fun e w' => (∃ A c, e = .returned (.slice A 0 c)) ∧ Below W.heap.size W w' := by
  refine (ghComponents_ok P [] W (ng_gv h) ⟨by simp, fit_nil⟩ sy_nil ht).mono ?_
  rintro e w' ⟨v, ls, rfl, hlo, hls, hb⟩
  rw [show (Dg.cmps []).map bsl = [] from rfl] at hls
  obtain rfl := nil_of hls
  obtain ⟨A, c, rfl, -⟩ := hlo.sl_
  exact ⟨⟨A, c, rfl⟩, hb⟩
theorem nClique (h : NG W (.pointer P)) (ht : Tab64 W) : Calls Tryd.prog 22 #[.pointer P] W fun e w' => (∃ A c, e = .returned (.slice A 0 c)) ∧ Below W.heap.size W w' := by
  refine (ghClique_ok P [] W (ng_gv h) (by simp) fit_nil sy_nil ht).mono ?_
  rintro e w' ⟨A, c, rfl, hS, hb⟩
  rw [show (bsl (Bs.els (clq []) 0)).length = 0 from by kernel_rfl]
  exact ⟨⟨A, c, rfl⟩, hb⟩
end
set_option maxHeartbeats 64000000 in
theorem graphNone_walk (v : Int) (OA : Option Addr) (oc : Nat) (o : List Int) (w : World) (ht : Tab64 w) :
    Calls Tryd.prog 10 #[.int .i64 v, .slice OA o.length oc] w fun e w' => e = .returned (.bool true) ∧ Below w.heap.size w w' := by
  have hund : undef = Value.tuple #[] := rfl
  generalize o.length = no
  obtain ⟨r, g0⟩ : ∃ r, decide ((5 : Int) < (no : Int)) = r := ⟨_, rfl⟩
  cases r with
  | true =>
    go_enter Tryd.func10, Tryd.ntmps10
    go_wp2_with fail
    refine (known08_any w ht).mono ?_
    rintro e x9 ⟨rfl, hb9⟩
    go_wp2_with fail
    go_ret
    exact ⟨rfl, hb9⟩
  | false =>
  obtain ⟨V, HW, xz, xb, hB, -⟩ := boxes2 w #[.bool false, .slice none 0 0, .int .i64 0] 72 #[.pointer none, gp w.heap.size] 24
  have hV := HW.out
  have hz : NG V (gp w.heap.size) := .inr ⟨_, rfl, xz⟩
  have tb := ht.kept hB
  clear xz
  go_enter Tryd.func10, Tryd.ntmps10
  go_wp2_with fail
  clear hV HW
  refine wp_loop_mrg [7, 8, 9, 10, 11, 12, 13, 14, 15, 25, 26, 27, 28, 29, 30, 31, 32, 33, 34, 35, 36, 37, 38, 39, 40, 41, 42, 43, 44, 45, 46, 47, 48, 49, 50, 51, 52, 53, 54, 55, 56, 57, 58, 59, 60, 61, 62, 63, 64, 65, 66, 67, 68, 69, 70, 71, 72, 73, 74, 75, 76, 77, 78, 79, 80, 81, 82, 83, 84, 85, 86, 87, 88, 89, 90, 91, 92, 93, 94, 95, 96, 97, 98, 99, 100, 101, 102, 103, 104, 105, 106, 107, 108, 109, 110, 111, 112, 113, 114, 115, 116, 117, 118, 119, 120, 121, 122, 123, 124, 125, 126, 127, 128, 129, 130] (fun mm f ds wr => ds = [] ∧ ∃ (k : Nat), f 25 = .int .i64 k ∧ 2 - k = mm ∧ k ≤ 2 ∧ Below w.heap.size w wr ∧ Box wr (w.heap.size + 1) #[.pointer none, gp w.heap.size] 24 ∧ NG wr (gp w.heap.size) ∧ Tab64 wr) 2 ⟨rfl, 0, rfl, rfl, Nat.zero_le _, hB, xb, hz, tb⟩ ?_
  clear hB xb hz tb
  intro c1' T1' hc2 hT2
  rintro mm f ds wr ⟨rfl, k, hf25, rfl, hk, hB, xb, hz, tb⟩
  replace hc2 := hc2.out
  subst hc2
  replace hT2 := hT2.out
  subst hT2
  generalize hF : mrgF _ 0 _ _ = F
  simp only [mrg_hit, mrg_miss, mrg_end, Nat.reduceBEq, Nat.reduceAdd] at hF
  rw [hf25] at hF
  subst hF
  clear hf25
  by_cases hlt : k < 2
  · have q0 : decide ((k : Int) < 2) = true := decide_eq_true (by omega)
    have x0 : (0 : Int) ≤ (k : Int) := by omega
    have x1 : (k : Int) < 2 := by omega
    obtain ⟨P, hc, hN⟩ : ∃ P : Option Addr, wr.cell? ⟨w.heap.size + 1, k, none⟩ = some (.pointer P) ∧ NG wr (.pointer P) := by
      obtain ⟨c0, c1⟩ := xb.c2
      rcases (show k = 0 ∨ k = 1 by omega) with rfl | rfl
      · exact ⟨none, c0, .inl rfl⟩
      · exact ⟨_, c1, hz⟩
    have kN := ngNeighbours_ok (.pointer P) v wr hN
    go_wp2_with fail
    clear hc
    refine kN.mono ?_
    rintro e w2 ⟨rfl, hbx⟩
    clear kN
    replace hN := hN.next hbx
    replace hz := hz.next hbx
    replace tb := tb.kept hbx
    replace hB := after_ hB hbx
    replace xb := xb.below hbx
    clear hbx
    obtain ⟨X, HX, xs, hbx, -⟩ := boxes1 w2 (bsc 0) 63
    replace hN := hN.next hbx
    replace hz := hz.next hbx
    replace tb := tb.kept hbx
    replace hB := after_ hB hbx
    replace xb := xb.below hbx
    clear hbx
    have kB := nBlocks hN tb
    go_wp2_with fail
    change Calls _ _ _ (w2.alloc (.cells (bsc 0) 63)) _
    rw [HX.out]
    clear HX
    refine kB.mono ?_
    rintro e w3 ⟨⟨BA, bc, CA, cc, rfl⟩, hbx⟩
    clear kB
    replace hN := hN.next hbx
    replace hz := hz.next hbx
    replace tb := tb.kept hbx
    replace hB := after_ hB hbx
    replace xb := xb.below hbx
    replace xs := xs.below hbx
    clear hbx
    go_wp2_with fail
    refine (nDegen hN tb).mono ?_
    rintro e w4 ⟨⟨DA, dc, rfl⟩, hbx⟩
    replace hN := hN.next hbx
    replace hz := hz.next hbx
    replace tb := tb.kept hbx
    replace hB := after_ hB hbx
    replace xb := xb.below hbx
    replace xs := xs.below hbx
    clear hbx
    go_wp2_with fail
    refine (ngColour_ok P OA oc no w4 hN).mono ?_
    rintro e w5 ⟨rfl, hbx⟩
    replace hN := hN.next hbx
    replace hz := hz.next hbx
    replace tb := tb.kept hbx
    replace hB := after_ hB hbx
    replace xb := xb.below hbx
    replace xs := xs.below hbx
    clear hbx
    go_wp2_with fail
    refine (ngAdd_ok (.pointer P) v 0 w5 hN).mono ?_
    rintro e w6 ⟨rfl, rfl⟩
    go_wp2_with fail
    refine (ngHasE_ok (.pointer P) v 0 _ hN).mono ?_
    rintro e w6 ⟨rfl, rfl⟩
    go_wp2_with fail
    refine (ngLen_ok (.pointer P) _ hN).mono ?_
    rintro e w6 ⟨rfl, rfl⟩
    go_wp2_with fail
    refine (ngEdges_ok (.pointer P) _ hN).mono ?_
    rintro e w6 ⟨rfl, rfl⟩
    obtain ⟨d0, d1, d2, d3, d4, d5, d6, d7⟩ := xs.w
    have kE := bsEmpty_ok 0 Bs.Fit.zero w5
    rw [decide_eq_true rfl] at kE
    go_wp2_with fail
    clear d0 d1 d2 d3 d4 d5 d6 d7
    refine kE.mono ?_
    rintro e w6 ⟨rfl, hbx⟩
    clear kE
    replace hN := hN.next hbx
    replace hz := hz.next hbx
    replace tb := tb.kept hbx
    replace hB := after_ hB hbx
    replace xb := xb.below hbx
    replace xs := xs.below hbx
    clear hbx
    go_wp2_with fail
    refine (ngDegree_ok (.pointer P) v w6 hN).mono ?_
    rintro e w7 ⟨rfl, rfl⟩
    go_wp2_with fail
    refine (nComps hN tb).mono ?_
    rintro e w7 ⟨⟨GA, gc, rfl⟩, hbx⟩
    replace hN := hN.next hbx
    replace hz := hz.next hbx
    replace tb := tb.kept hbx
    replace hB := after_ hB hbx
    replace xb := xb.below hbx
    replace xs := xs.below hbx
    clear hbx
    go_wp2_with fail
    refine (nClique hN tb).mono ?_
    rintro e w8 ⟨⟨HA, hc2, rfl⟩, hbx⟩
    replace hN := hN.next hbx
    replace hz := hz.next hbx
    replace tb := tb.kept hbx
    replace hB := after_ hB hbx
    replace xb := xb.below hbx
    replace xs := xs.below hbx
    clear hbx
    go_wp2_with fail
    refine (ngCopy_ok (.pointer P) w8 hN).mono ?_
    rintro e w9 ⟨rfl, rfl⟩
    clear hN xs
    go_wp2_with fail
    exact ⟨_, rfl, rfl, 2 - (k + 1), by omega, by trivial, k + 1, rfl, rfl, by omega, hB, xb, hz, tb⟩
  · obtain rfl : k = 2 := by omega
    have q0 : decide (((2 : Nat) : Int) < 2) = false := rfl
    go_wp2_with fail
    refine (known08_any _ tb).mono ?_
    rintro e x9 ⟨rfl, hbx⟩
    have hbz := after_ hB hbx
    go_wp2_with fail
    go_ret
    exact ⟨rfl, hbz⟩
end Go.Proofs.YtjoomgojnpcbeaaDoor
end
