/- A bundle of texts: TwC, TwD, Ph1, Ph2. -/
import Derived.Test.YtpkepgcmifdpfaaGreatDoorR26
import Derived.Test.YtpkepgcmifdpfaaGreatDoorR27
import Derived.Test.YtpkepgcmifdpfaaGreatDoorR04
section
namespace Go.Proofs.YtpkepgcmifdpfaaGreatDoor
open Go Go.RowKit Go.Maps
set_option maxRecDepth 100000
theorem zeroRec (w : World) : (zeroValue 150).run Tryz.prog w = .ok (.slice none 0 0) w := by kernel_rfl
theorem UM.look {W : World} {base bm nn : Nat} {D : DataW Value} {V : M.Pl → Value} {N : M.Pl → Nat} {F : M.Pl → Nat → Nat} (h : UM W base bm nn D V N F) {p : M.Pl} (hp : M.PlOk p) : (Instr.lookup 143 (.map (some bm)) (plv p) false).run Tryz.prog W = .ok (V p) W := by
  obtain ⟨v, ps, hrun, hv⟩ := h.own.lookup placeKeyed Tryz.underlying143 (zeroRec W) (zd := .held (.slice none 0 0)) (zp := []) rfl (place_key hp)
  rw [h.hit p hp] at hv
  unfold rawE at hv
  obtain rfl : v = V p := by have := Option.some.inj hv; simpa using congrArg Prod.fst this
  exact hrun
theorem addR_now (F : M.Pl → Nat → Nat) (p : M.Pl) (s j : Nat) : M.addR F p s j p (s + j) = F p (s + j) := by
  unfold M.addR
  rw [if_neg (by omega)]
  rfl
set_option maxHeartbeats 32000000 in
theorem works_add {Q : Exit → Act → World → Prop} {cd : Code} {ds0 : List Deferred} {Z0 Z1 Z2 Z3 Z4 Z5 Z6 Z7 Z8 Z9 Zb Zc Ze Zg Zh Zi Zj Zk Zl Zm Zn Zo Zp Zq Zr Zs Zt Zu Zv Zw Zx Zy Zz Z10 Z11 Z12 Z13 Z14 Z15 Z16 Z17 Z18 Z19 Z1a Z1b Z1c Z1d Z1e Z1f Z1g Z1h Z1i Z1j Z1k Z1l Z1m Z1p Z1q Z1r Z1s Z1t Z1u Z1v Z1w Z1x Z1y Z1z Z20 Z21 Z22 Z23 Z24 Z25 Z26 Z27 Z28 Z29 Z2a Z2b Z2c Z2d Z2e Z2f Z2g : Value} (w1 W : World) (bB base bm b10 b13 nn s : Nat) (c : Int) (D : DataW Value) (V : M.Pl → Value) (N : M.Pl → Nat) (F : M.Pl → Nat → Nat) (vW : Value) (ws : List (Mv × Nat)) (m : Mv) (p : M.Pl) (hp : M.PlOk p) (hix : ∀ w, (Instr.index 146 (plsv m) (.int .i64 c)).run Tryz.prog w = .ok (plv p) w) (hm : M.mvOk m = true) (hb : w1.heap.size ≤ bm ∧ bm < b10 ∧ b10 < base) (st : WS w1 W base bm b10 nn D V N F vW ws) (x13 : Box W b13 (mvc m) 66) (h13 : bm < b13) (hbase : base ≤ W.heap.size) (hF : ∀ i, F p i < 255) (hs : s ≤ 1000000) (hnn : nn ≤ 1000000) (hM0 : Marks bB W.heap.size ds0 W) (hbB : bB ≤ W.heap.size) (hcd : (Tryz.f58.body.bind (blockOf 3)) = some cd)
    (hQ : ∀ (y17 y62 y63 y64 y65 y66 : Value) (ds : List Deferred) (W' : World) (D' : DataW Value) (V' : M.Pl → Value) (N' : M.Pl → Nat), WS w1 W' base bm b10 (nn + M.wkN m) D' V' N' (M.addR F p s (M.wkN m)) vW ws → Box W' b13 (mvc m) 66 → base ≤ W'.heap.size → bB ≤ W'.heap.size → Marks bB W'.heap.size ds W' → Q .normal ⟨#[Z0, Z1, Z2, Z3, Z4, Z5, Z6, Z7, Z8, Z9, .pointer (some ⟨b10, 0, none⟩), Zb, Zc, .pointer (some ⟨b13, 0, none⟩), Ze, .int .i64 (s : Nat), Zg, y17, Zi, Zj, Zk, Zl, Zm, Zn, Zo, Zp, Zq, Zr, Zs, Zt, Zu, Zv, Zw, Zx, Zy, Zz, Z10, Z11, Z12, Z13, Z14, Z15, Z16, Z17, Z18, Z19, Z1a, Z1b, Z1c, Z1d, Z1e, Z1f, Z1g, Z1h, Z1i, Z1j, Z1k, Z1l, Z1m, plsv m, .int .i64 c, Z1p, y62, y63, y64, y65, y66, Z1v, Z1w, Z1x, Z1y, Z1z, Z20, Z21, Z22, Z23, Z24, Z25, Z26, Z27, Z28, Z29, Z2a, Z2b, Z2c, Z2d, Z2e, Z2f, Z2g], ds⟩ W') :
    cd.wp Tryz.prog Q ⟨#[Z0, Z1, Z2, Z3, Z4, Z5, Z6, Z7, Z8, Z9, .pointer (some ⟨b10, 0, none⟩), Zb, Zc, .pointer (some ⟨b13, 0, none⟩), Ze, .int .i64 (s : Nat), Zg, Zh, Zi, Zj, Zk, Zl, Zm, Zn, Zo, Zp, Zq, Zr, Zs, Zt, Zu, Zv, Zw, Zx, Zy, Zz, Z10, Z11, Z12, Z13, Z14, Z15, Z16, Z17, Z18, Z19, Z1a, Z1b, Z1c, Z1d, Z1e, Z1f, Z1g, Z1h, Z1i, Z1j, Z1k, Z1l, Z1m, plsv m, .int .i64 c, Z1p, Z1q, Z1r, Z1s, Z1t, Z1u, Z1v, Z1w, Z1x, Z1y, Z1z, Z20, Z21, Z22, Z23, Z24, Z25, Z26, Z27, Z28, Z29, Z2a, Z2b, Z2c, Z2d, Z2e, Z2f, Z2g], ds0⟩ W := by
  obtain ⟨hw1, hw2, hw3⟩ := M.wkN_le hm
  have HFS := Lib.hid hF
  have HP := Lib.hid hp
  rw [show (Tryz.f58.body.bind (blockOf 3)) = some (Code.block 3 _) from rfl] at hcd
  obtain rfl := Option.some.inj hcd
  clear hcd hF
  have HQ := Lib.hid hQ
  clear hQ
  obtain ⟨X, HX, x17, hbX, hsX⟩ := boxes1 W #[.bool p.1, .int .i64 p.2] 145
  have HSX := Lib.hid hsX
  clear hsX
  have stX := st.next hbX
  have y13 := x13.below hbX
  obtain ⟨-, -, -, -, -, e5⟩ := y13.c6'
  rw [← hw3] at e5
  have l13 := y13.lt
  have hMX := hM0.below hbX
  have hbmW : bm < W.heap.size := st.um.own.lt
  have hX := HX.out
  generalize hwn : M.wkN m = wk at *
  have HWN := Lib.hid hwn
  clear hwn hw3 hm
  go_wp2_with fail
  clear hX e5
  refine (weeks_ok s wk X).mono ?_
  rintro e w4 ⟨rfl, hb4, wkb, hs4⟩
  have st4 := stX.next hb4
  have z13 := y13.below hb4
  have z17 := x17.below hb4
  have hM4 := hMX.below hb4
  have hMZ := hM4.more (C' := w4.heap.size) (by have := hbX.size; have := hb4.size; omega)
  have hlen : ((List.range wk).map (s + ·)).length = wk := by simp
  have HAT : Hid (∀ k (hk : k < ((List.range wk).map (s + ·)).length), ((List.range wk).map (s + ·))[k] = s + k) := Lib.hid (fun k hk => by simp)
  have HLEN := Lib.hid hlen
  have hbase4 : base ≤ w4.heap.size := Nat.le_trans hbase (Nat.le_trans hbX.size hb4.size)
  have hseq := weeks_seq X.heap.size s wk (by omega)
  clear hlen stX y13 hMX hM4 x13 x17 st hM0
  generalize (List.range wk).map (s + ·) = es at *
  go_wp2_with fail
  refine wp_range (gf := 111) (lb := #[.pointer (some ⟨X.heap.size + 1, 0, none⟩), .pointer (some ⟨X.heap.size, 0, none⟩)]) rfl (enters_of Tryz.func111 (by kernel_rfl) rfl) hseq (fun _ => rfl)
    (fun pre W1 => (∃ D' V' N', WS w1 W1 base bm b10 (nn + pre.length) D' V' N' (M.addR F p s pre.length) vW ws) ∧ base ≤ W1.heap.size ∧ Box W1 b13 (mvc m) 66 ∧ Box W1 W.heap.size #[.bool p.1, .int .i64 p.2] 145 ∧ WkB W1 X.heap.size s wk ∧ Marks bB w4.heap.size ds0 W1) (fun _ _ _ => False)
    ?hI (fun _ _ _ _ _ h => h.elim) ?hK ⟨⟨D, V, N, st4.cast0⟩, hbase4, z13, z17, wkb, hMZ⟩ ?round ?done (fun _ _ _ h => h.elim)
  case hI => exact fun pre W1 W2 row ⟨⟨D', V', N', h1⟩, h0, h2, h3, h4, h5⟩ hg hr => ⟨⟨D', V', N', h1.own' (by have := st4.bel.size; omega) (by have := hb4.size; omega) hg hr⟩, Nat.le_trans h0 hg.size, h2.own hg hr, h3.own hg hr, ⟨h4.s.own hg hr, h4.n.own hg hr⟩, h5.own (Nat.le_refl _) hg hr⟩
  case hK => exact fun pre W1 ⟨_, _, _, _, h4, _⟩ => h4
  case round =>
    intro r' pre x post W1 hL hl' hd' hi
    gi_wp2
    refine ⟨hl', hd', hi, fun _ => True, fun _ _ _ _ _ _ _ => trivial, trivial, ?_⟩
    clear hl' hd' hi
    rintro r'' W2 hl2 hd2 ⟨⟨D', V', N', h1⟩, h0, h2, h3, h4, h5⟩ -
    have hxl : pre.length < wk := by
      have h6 := congrArg List.length hL
      rw [HLEN.out] at h6
      simp at h6
      omega
    have hx : x = s + pre.length := by
      have h6 := HAT.out pre.length (by rw [HLEN.out]; exact hxl)
      rw [← h6]
      simp [hL]
    clear hL
    subst hx
    have HPL : Hid ((pre ++ [s + pre.length]).length = pre.length + 1) := Lib.hid (by simp)
    rw [HPL.out]
    generalize pre.length = j at *
    have hd := h1.next (Below.refl W2.heap.size W2).drew
    have hlk : (Instr.lookup 143 (.map (some bm)) (plv p) false).run Tryz.prog W2.drew = .ok (V' p) W2.drew := hd.um.look HP.out
    have hk2 := recAdd_ok base (V' p) (N' p) (M.addR F p s j p) (s + j) W2.drew (hd.um.row p) (hd.um.far p) (by rw [addR_now]; exact HFS.out _) (hd.um.len p) (by omega) h0
    have E10 : W2.drew.cell? ⟨b10, 0, none⟩ = some (.map (some bm)) := h1.x10.c1
    have E17 : W2.drew.cell? ⟨W.heap.size, 0, none⟩ = some (.bool p.1) := h3.c2.1
    have E18 : W2.drew.cell? ⟨W.heap.size, 1, none⟩ = some (.int .i64 p.2) := h3.c2.2
    gi_wp2_with fail
    refine wpIn_of_any (by kernel_rfl) (by kernel_rfl) ?_
    refine wpAny_of_L (S := (fun (ls : Array Bool) (w' : World) => (ls.getD 7 true = false → (w'.cell? ⟨b10, 0, none⟩ = some (.map (some bm)) ∧ w'.cell? ⟨W.heap.size, 0, none⟩ = some (.bool p.1) ∧ w'.cell? ⟨W.heap.size, 1, none⟩ = some (.int .i64 p.2))) ∧ (ls.getD 6 true = false → (Instr.lookup 143 (.map (some bm)) (plv p) false).run Tryz.prog w' = .ok (V' p) w'))) _ _ _ _ ?_
    change wpAnyL Tryz.prog _ _ _ _ _ _ _ W2.drew
    refine wpAnyL_take (i := 0) (q := 7) (v := .map (some bm)) (fun w' => w'.cell? ⟨b10, 0, none⟩ = some (.map (some bm))) rfl (by kernel_rfl) (by kernel_rfl) (by kernel_rfl) (fun c a w h => h) rfl (by kernel_rfl) (by decide) (fun ls w => by simp) (fun ls w h1 h2 => (h2.1 h1).1) rfl rfl (fun w h => by go_simp) ⟨fun _ => ⟨E10, E17, E18⟩, fun _ => hlk⟩ ?_
    try simp only [Act.put]
    refine wpAnyL_take (i := 1) (q := 7) (v := plv p) (fun w' => w'.cell? ⟨W.heap.size, 0, none⟩ = some (.bool p.1) ∧ w'.cell? ⟨W.heap.size, 1, none⟩ = some (.int .i64 p.2)) rfl (by kernel_rfl) (by kernel_rfl) (by kernel_rfl) (fun c a w h => h) rfl (by kernel_rfl) (by decide) (fun ls w => by simp) (fun ls w h1 h2 => (h2.1 h1).2) rfl rfl (fun w h => by obtain ⟨h1, h2⟩ := h; go_simp) ⟨fun _ => ⟨E10, E17, E18⟩, fun _ => hlk⟩ ?_
    try simp only [Act.put]
    refine wpAnyL_take (i := 2) (q := 7) (v := .map (some bm)) (fun w' => w'.cell? ⟨b10, 0, none⟩ = some (.map (some bm))) rfl (by kernel_rfl) (by kernel_rfl) (by kernel_rfl) (fun c a w h => h) rfl (by kernel_rfl) (by decide) (fun ls w => by simp) (fun ls w h1 h2 => (h2.1 h1).1) rfl rfl (fun w h => by go_simp) ⟨fun _ => ⟨E10, E17, E18⟩, fun _ => hlk⟩ ?_
    try simp only [Act.put]
    refine wpAnyL_take (i := 3) (q := 7) (v := plv p) (fun w' => w'.cell? ⟨W.heap.size, 0, none⟩ = some (.bool p.1) ∧ w'.cell? ⟨W.heap.size, 1, none⟩ = some (.int .i64 p.2)) rfl (by kernel_rfl) (by kernel_rfl) (by kernel_rfl) (fun c a w h => h) rfl (by kernel_rfl) (by decide) (fun ls w => by simp) (fun ls w h1 h2 => (h2.1 h1).2) rfl rfl (fun w h => by obtain ⟨h1, h2⟩ := h; go_simp) ⟨fun _ => ⟨E10, E17, E18⟩, fun _ => hlk⟩ ?_
    try simp only [Act.put]
    refine wpAnyL_take (i := 4) (q := 6) (v := V' p) (fun w' => (Instr.lookup 143 (.map (some bm)) (plv p) false).run Tryz.prog w' = .ok (V' p) w') rfl (by kernel_rfl) (by kernel_rfl) (by kernel_rfl) (fun c a w h => h) rfl (by kernel_rfl) (by decide) (fun ls w => by simp) (fun ls w h1 h2 => h2.2 h1) rfl rfl (fun w h => by go_simp) ⟨fun _ => ⟨E10, E17, E18⟩, fun _ => hlk⟩ ?_
    try simp only [Act.put]
    refine wpAnyL_take (i := 5) (q := 6) (v := .int .i64 ((s + j : Nat) : Int)) (fun w' => True) rfl (by kernel_rfl) (by kernel_rfl) (by kernel_rfl) (fun c a w h => h) rfl (by kernel_rfl) (by decide) (fun ls w => by simp) (fun ls w h1 h2 => trivial) rfl rfl (fun w h => by go_simp) ⟨fun _ => ⟨E10, E17, E18⟩, fun _ => hlk⟩ ?_
    try simp only [Act.put]
    refine wpAnyL_one (i := 6) (by kernel_rfl) ?_
    refine wpOp_K (fun K hK => ?_)
    refine wpOp_one rfl rfl ?_
    go_simp
    refine hk2.mono ?_
    rintro e w7 ⟨v', n', rfl, own7, far7, hn7, hg7, hloc7⟩
    have E10' : w7.cell? ⟨b10, 0, none⟩ = some (.map (some bm)) := (hd.x10.grown hg7 (fun e => by have := ((hd.um.row p).lt b10 e.symm).1; omega)).c1
    have h3d : Box W2.drew W.heap.size #[.bool p.1, .int .i64 p.2] 145 := h3
    have h37 := h3d.grown hg7 (h3d.ne_own (by decide) (hd.um.row p))
    have E17' := h37.c2.1
    have E18' := h37.c2.2
    refine hK _ _ ⟨⟨fun _ => ⟨E10', E17', E18'⟩, fun h => absurd h (by simp)⟩, ?_⟩
    clear hK K
    try simp only [Act.put]
    have hm7 := hd.um.own.kept hg7 (fun e => by have := ((hd.um.row p).lt bm e.symm).1; omega)
    obtain ⟨w8, hup, hown8, hg8⟩ := hm7.update placeKeyed Tryz.underlying143 (by unfold maxLen; omega) (place_key HP.out) (val := v') (d := .held v') (ps := []) rfl
    refine wpAnyL_one (i := 7) (by kernel_rfl) ?_
    refine wpOp_K (fun K hK => ?_)
    refine wpOp_one rfl rfl ?_
    go_simp
    refine hK _ _ ⟨⟨fun h => absurd h (by simp), fun h => absurd h (by simp)⟩, ?_⟩
    clear hK K
    refine wpAnyL_done (by kernel_rfl) ?_ _
    refine onlyK_of ?_
    gi_wp2_with fail
    have st8 := hd.put hb HP.out hg7 own7 far7 hn7 hloc7 hown8 hg8
    have hmb : some bm ≠ (V' p).ownBlock := fun e => by have := ((hd.um.row p).lt bm e.symm).1; omega
    have h2d : Box W2.drew b13 (mvc m) 66 := h2
    have h28 := (h2d.grown hg7 (h2d.ne_own (by decide) (hd.um.row p))).grown hg8 (fun e => by have := Option.some.inj e; omega)
    have h38 := h37.grown hg8 (fun e => by have := Option.some.inj e; omega)
    have h4d : WkB W2.drew X.heap.size s wk := ⟨h4.s, h4.n⟩
    have h48 : WkB w8 X.heap.size s wk := ⟨(h4d.s.grown hg7 (h4d.s.ne_own (by decide) (hd.um.row p))).grown hg8 (fun e => by have := Option.some.inj e; have := HSX.out; omega), (h4d.n.grown hg7 (h4d.n.ne_own (by decide) (hd.um.row p))).grown hg8 (fun e => by have := Option.some.inj e; have := HSX.out; omega)⟩
    have h5d : Marks bB w4.heap.size ds0 W2.drew := h5
    have hm7c := hm7
    obtain ⟨es7, ck7, hb7, -⟩ := hm7c
    have h58 := (h5d.grown (hd.um.row p) hg7).map hb7 (fun e => by cases e) hg8
    have hl2d : Hold W2.drew _ _ := hl2
    have hd2d : Hold W2.drew _ _ := hd2
    have hl28 := (hl2d.grown hg7 (hl2d.ne_own rfl (hd.um.row p))).grown hg8 (fun e => by have := Option.some.inj e; omega)
    have hd28 := (hd2d.grown hg7 (hd2d.ne_own rfl (hd.um.row p))).grown hg8 (fun e => by have := Option.some.inj e; omega)
    exact ⟨hl28, hd28, ⟨_, _, _, st8.cast (M.addR_succ F p s j)⟩, Nat.le_trans h0 (Nat.le_trans hg7.size hg8.size), h28, h38, h48, h58⟩
  case done =>
    rintro W1 ⟨⟨D', V', N', h1⟩, h0, h2, h3, h4, h5⟩ hD
    rw [HLEN.out] at h1
    have h6 := (h5.cons (C := w4.heap.size) (D := w4.heap.size) (by have := hbX.size; have := hb4.size; omega) (Nat.le_refl _) hD).more (C' := W1.heap.size) hD.lt
    exact HQ.out _ _ _ _ _ _ _ _ _ _ _ h1 h2 h0 (by have := hD.lt; have := hbX.size; have := hb4.size; omega) h6
end Go.Proofs.YtpkepgcmifdpfaaGreatDoor
end

section
namespace Go.Proofs.YtpkepgcmifdpfaaGreatDoor
open Go Go.RowKit Go.Maps
set_option maxRecDepth 100000
theorem workInfo : (Tryz.prog.info? 127).map (fun i => (i.zero, i.size, i.bytes)) = some (some (.agg #[.int .i64 0, .int .i64 0, .int .i64 0]), 3, 24) := by kernel_rfl
namespace M
def Fc (ws : List (Mv × Nat)) (m : Mv) (s : Nat) : Nat → Pl → Nat → Nat
  | 0 => usd ws
  | 1 => addR (usd ws) (plc m false) s (wkN m)
  | _ => usd (ws ++ [(m, s)])
theorem addR_le (F : Pl → Nat → Nat) (p : Pl) (s j : Nat) (q : Pl) (i : Nat) : addR F p s j q i ≤ F q i + 1 := by
  unfold addR; split <;> omega
theorem pcap_all {T C : List Si} {l : List Mv} (h : twOk l T C) (ha : twAll l T C) : ∀ m ∈ l, ∀ c, 1 ≤ pcap T C (plc m c) := fun _ hm c => (pcap_pos h ha hm c).1
theorem usd_le {T C : List Si} {l : List Mv} (h : twOk l T C) (ha : twAll l T C) (p : Pl) (w : Nat) : usd (wks T C l) p w ≤ 64 := by
  have h1 := (wks_inv (pcap_all h ha)).2.2.1 p w
  have h2 := pcap_bd h.2.1 h.2.2 p
  omega
theorem wks_len {T C : List Si} {l : List Mv} (h : twOk l T C) (ha : twAll l T C) : (wks T C l).length = l.length := by
  have := congrArg List.length (wks_inv (pcap_all h ha)).2.1
  rwa [List.length_map] at this
theorem span_le {T C : List Si} {l : List Mv} (h : twOk l T C) (ha : twAll l T C) : span (wks T C l) ≤ 52 * l.length := by
  rw [(wks_inv (pcap_all h ha)).2.2.2]
  exact sum_wk_le h.1.2.1
end M
set_option maxHeartbeats 64000000 in
theorem works_ok (LA TA CA : Option Addr) (lc tc cc : Nat) (l : List Mv) (T C : List Si) (w : World) (hL : Sl 6 mvcell w w.heap.size LA l) (hT : Sl 2 sicell w w.heap.size TA T) (hC : Sl 2 sicell w w.heap.size CA C) (hl : l.length ≤ 9223372036854775806) (hTl : T.length ≤ 9223372036854775806) (hCl : C.length ≤ 9223372036854775806) :
    Calls Tryz.prog 58 #[.slice LA l.length lc, .slice TA T.length tc, .slice CA C.length cc] w fun e w' => (∃ er, M.twIs l T C er ∧ ((er ≠ 0 ∧ e = .returned (.tuple #[.slice none 0 0, .int .i64 er])) ∨ (er = 0 ∧ ∃ A c, e = .returned (.tuple #[.slice A l.length c, .int .i64 0]) ∧ Sl 3 wcell w' w'.heap.size A (M.wks T C l)))) ∧ Below w.heap.size w w' := by
  obtain ⟨iw, hiw, hzw0, hzw1, hzw2⟩ := info_parts workInfo
  have Hiw := Lib.hid hiw; have Hzw0 := Lib.hid hzw0; have Hzw1 := Lib.hid hzw1; have Hzw2 := Lib.hid hzw2
  clear hiw hzw0 hzw1 hzw2
  have kC := capacities_ok LA TA CA lc tc cc l T C w hL hT hC hl hTl hCl
  refine calls_marks Tryz.func58 rfl ?_
  simp only [Tryz.ntmps58, List.size_toArray, List.length_cons, List.length_nil, Nat.reduceAdd, Nat.reduceSub, Array.replicate_succ, Array.replicate_zero, List.push_toArray, List.append_toArray, List.nil_append, List.cons_append]
  go_wp2_with fail
  refine kC.mono ?_
  rintro e w1 ⟨⟨er, her, hcase⟩, hb1⟩
  clear kC
  rcases hcase with ⟨hne, rfl⟩ | ⟨rfl, bs, ns, Ds, rfl, hbs, hown1, hPD⟩
  · have q0 : (er == 0) = false := by simpa using hne
    have q1 : (er != 0) = true := by simpa using hne
    have HER := Lib.hid her
    have HE0 := Lib.hid hne
    clear her hne
    go_wp2_with fail
    exact leaves_marks (B := w.heap.size) (C := w.heap.size) _ _ Marks.none_ (fun W' hs => ⟨.tuple #[.slice none 0 0, .int .i64 er], by simp [results, Tryz.results58, go_sem], ⟨er, HER.out, .inl ⟨HE0.out, rfl⟩⟩, hb1.trans hs.below⟩)
  have HER := Lib.hid her
  have HPD := Lib.hid hPD
  have HOK : Hid (M.twOk l T C ∧ M.twAll l T C) := Lib.hid (by
    rcases her with ⟨h1, h2, -⟩ | ⟨-, -, h⟩ | ⟨-, h⟩
    · exact ⟨h1, h2⟩
    all_goals cases h)
  have hl512 := HOK.out.1.1.1
  have hbs1 := hown1.lt
  clear her hPD
  have hmm := @run_makeMap Tryz.prog
  obtain ⟨U, HU⟩ : ∃ U, Hid (w1.alloc (.map #[] 0) = U) := ⟨_, Lib.hid rfl⟩
  have hU := HU.out
  have hbU : Below w1.heap.size w1 U := by rw [← hU]; exact (Below.refl _ _).alloc (Nat.le_refl _) _
  have hsU : U.heap.size = w1.heap.size + 1 := by rw [← hU]; simp
  have hownU : U.ownsMap Tryz.prog 145 rawE w1.heap.size 0 (.map []) := by rw [← hU]; exact World.ownsMap_made _ _ _ _
  obtain ⟨Y, HY, x10, hbY, hsY⟩ := boxes1 U #[.map (some w1.heap.size)] 143
  have st0 : WS w1 Y Y.heap.size w1.heap.size U.heap.size 0 (.map []) (fun _ => .slice none 0 0) (fun _ => 0) (M.usd (M.wks T C (l.take 0))) (.slice none 0 0) (M.wks T C (l.take 0)) :=
    ⟨after_ hbU hbY, UM.start (hownU.kept (below_grown hbY) (by simp)), x10, own_nil _ _ _ 3 wcell⟩
  have HB : Hid (w1.heap.size ≤ w1.heap.size ∧ w1.heap.size < U.heap.size ∧ U.heap.size < Y.heap.size) := Lib.hid ⟨Nat.le_refl _, by omega, by omega⟩
  have hwb : w.heap.size ≤ w1.heap.size := hb1.size
  have hb1Y : w1.heap.size ≤ Y.heap.size := by omega
  have hY := HY.out
  clear hsU hsY hbU hownU x10
  go_wp2_with fail
  clear hU hY hmm
  generalize U.heap.size = b10 at *
  generalize hYs : Y.heap.size = base at *
  have HYS := Lib.hid hYs
  clear hYs
  refine wp_loop_mrg [11, 13, 14, 15, 16, 17, 18, 32, 33, 34, 35, 36, 37, 38, 39, 40, 41, 42, 43, 44, 45, 46, 47, 48, 49, 50, 51, 52, 53, 54, 55, 56, 57, 58, 59, 60, 61, 62, 63, 64, 65, 66, 67, 68, 69, 70, 71, 72, 73, 74, 75, 76, 77, 78, 79, 80, 81, 82, 83, 84, 85, 86, 87] (fun mm f0 ds W0 => ∃ (k nn : Nat) (D : DataW Value) (V : M.Pl → Value) (N : M.Pl → Nat), f0 32 = .int .i64 k ∧ l.length - k = mm ∧ k ≤ l.length ∧ nn ≤ 104 * k ∧ WS w1 W0 base w1.heap.size b10 nn D V N (M.usd (M.wks T C (l.take k))) (f0 11) (M.wks T C (l.take k)) ∧ base ≤ W0.heap.size ∧ Marks w.heap.size W0.heap.size ds W0) l.length ⟨0, 0, _, _, _, rfl, rfl, Nat.zero_le _, Nat.le_refl _, st0, by rw [HYS.out]; exact Nat.le_refl _, Marks.none_⟩ ?_
  clear st0
  intro c1' T1' hc2 hT2
  rintro mm f0 ds W0 ⟨k, nn, D, V, N, hf32, rfl, hk, hnn, st, hbw, hM⟩
  replace hc2 := hc2.out
  subst hc2
  replace hT2 := hT2.out
  subst hT2
  generalize hF : mrgF _ 0 _ _ = F
  simp only [mrg_hit, mrg_miss, mrg_end, Nat.reduceBEq, Nat.reduceAdd] at hF
  rw [hf32] at hF
  subst hF
  clear hf32
  generalize f0 11 = vW at *
  have BW := after_ hb1 st.bel
  by_cases hlt : k < l.length
  · obtain ⟨la, hla, hlb, a0, a1, a2, a3, a4, a5⟩ := ((hL.below BW).more (B' := W0.heap.size) BW.size).mv6 hlt
    have HTK : Hid (l.take (k + 1) = l.take k ++ [l[k]]) := Lib.hid (List.take_succ_eq_append_getElem hlt)
    have hokk : M.twOk (l.take k) T C := M.twOk_sub HOK.out.1 (List.take_sublist k l)
    have hallk : M.twAll (l.take k) T C := M.twAll_sub HOK.out.2 (List.take_sublist k l)
    have hmOk := HOK.out.1.1.2.1 l[k] (List.getElem_mem hlt)
    have HCP := Lib.hid (M.pcap_all HOK.out.1 HOK.out.2 l[k] (List.getElem_mem hlt))
    have HMEM := Lib.hid (List.getElem_mem hlt)
    have x0 : (0 : Int) ≤ (k : Int) := by omega
    have x1 : (k : Int) < (l.length : Int) := by omega
    have q0 : decide ((k : Int) < (l.length : Int)) = true := decide_eq_true x1
    have HWN : Hid (M.wks T C (l.take (k + 1)) = M.wstep T C (M.wks T C (l.take k)) l[k]) := Lib.hid (by rw [HTK.out, M.wks_snoc])
    have HUS := Lib.hid (M.usd_le hokk hallk)
    have HEN := Lib.hid (M.wks_inv (M.pcap_all hokk hallk)).1
    have hsp := M.span_le hokk hallk
    have hwl := M.wks_len hokk hallk
    rw [List.length_take, Nat.min_eq_left (by omega)] at hsp hwl
    clear hokk hallk HTK
    generalize l[k] = m at *
    generalize M.wks T C (l.take k) = ws at *
    have HFS := Lib.hid (M.fre_span (m := m) HCP.out HEN.out (M.wkN m))
    obtain ⟨s, hs⟩ : ∃ s, M.est (M.fullW T C ws m) (M.wkN m) (M.span ws) = s := ⟨_, rfl⟩
    have hsle : s ≤ M.span ws := by rw [← hs]; exact (M.est_spec HFS.out).1
    have HWN2 : Hid (M.wks T C (l.take (k + 1)) = ws ++ [(m, s)]) := Lib.hid (by rw [HWN.out]; unfold M.wstep; rw [hs])
    obtain ⟨hw1, hw2, hw3⟩ := M.wkN_le hmOk
    have HW3 := Lib.hid hw3
    clear hw3
    have hpT := M.plc_le hmOk false
    have hpC := M.plc_le hmOk true
    have HMO := Lib.hid hmOk
    obtain ⟨X1, HX1, x13, hbX1, hsX1⟩ := boxes1 W0 (mvc m) 66
    have HSX1 := Lib.hid hsX1
    have BX1 := after_ BW hbX1
    obtain ⟨u1, u2, u3, u4, u5, u6⟩ := x13.c6'
    have st1 := st.next hbX1
    have hM1 := hM.below hbX1
    have HSE := Lib.hid hs
    have hX1 := HX1.out
    clear hsX1 hmOk HWN hs
    subst hla
    go_wp2_with fail
    clear hX1
    refine (places_ok m X1).mono ?_
    rintro e w4 ⟨rfl, hb4⟩
    obtain ⟨X2, HX2, x14, hbX2, hsX2⟩ := boxes1 w4 #[.bool false, .int .i64 m.tw, .bool true, .int .i64 m.cr] 146
    clear hsX2
    have hb42 := after_ hb4 hbX2
    have st2 := st1.next hb42
    have y13 := x13.below hb42
    have hM2 := hM1.below hb42
    have l13 := y13.lt
    have l14 := x14.lt
    have l10 := st2.x10.lt
    have c10 := st2.x10.c1
    obtain ⟨d0, d1, d2, d3⟩ := x14.c4
    obtain ⟨-, -, -, -, -, e5⟩ := y13.c6'
    rw [← HW3.out] at e5
    obtain ⟨A0, k0, hV0, r0⟩ := st2.um.rec_ (M.plc m false) (fun i => by have := HUS.out (M.plc m false) i; omega)
    obtain ⟨A1, k1, hV1, r1⟩ := st2.um.rec_ (M.plc m true) (fun i => by have := HUS.out (M.plc m true) i; omega)
    have lk0 : ∀ u : Kept X2.heap.size X2, (Instr.lookup 143 (.map (some w1.heap.size)) (plv (false, m.tw)) false).run Tryz.prog u.val = .ok (.slice A0 (N (M.plc m false)) k0) u.val := fun u => by
      have h1 := (st2.um.next u.h).look (p := M.plc m false) hpT
      rw [hV0] at h1
      exact h1
    have lk1 : ∀ u : Kept X2.heap.size X2, (Instr.lookup 143 (.map (some w1.heap.size)) (plv (true, m.cr)) false).run Tryz.prog u.val = .ok (.slice A1 (N (M.plc m true)) k1) u.val := fun u => by
      have h1 := (st2.um.next u.h).look (p := M.plc m true) hpC
      rw [hV1] at h1
      exact h1
    have hsit : X2.ownsMap Tryz.prog 145 (plainElem (H := Unit) Tryz.prog 3) bs ns Ds := hown1.kept (below_grown st2.bel) (by simp)
    have lks : ∀ c : Bool, ∀ u : Kept X2.heap.size X2, (Instr.lookup 140 (.map (some bs)) (plv (M.plc m c)) false).run Tryz.prog u.val = .ok (.int .i64 (M.pcap T C (M.plc m c))) u.val := fun c u => by
      obtain ⟨h2, h3⟩ := HPD.out.hit (M.plc m c) (List.mem_flatMap.2 ⟨m, HMEM.out, by cases c <;> simp [M.plcs]⟩)
      obtain ⟨cu, hlu, hau, -⟩ := (hsit.kept (below_grown u.h) (by simp)).lookup_int placeKeyed Tryz.underlying140 Tryz.underlying3 (zeroIntG u.val) (place_key h2)
      rw [h3] at hau
      obtain rfl : M.pcap T C (M.plc m c) = cu := by injection hau with h4; injection h4
      exact hlu
    have lk2 : ∀ u : Kept X2.heap.size X2, (Instr.lookup 140 (.map (some bs)) (plv (false, m.tw)) false).run Tryz.prog u.val = .ok (.int .i64 (M.pcap T C (M.plc m false))) u.val := lks false
    have lk3 : ∀ u : Kept X2.heap.size X2, (Instr.lookup 140 (.map (some bs)) (plv (true, m.cr)) false).run Tryz.prog u.val = .ok (.int .i64 (M.pcap T C (M.plc m true))) u.val := lks true
    have kE : Hid (∀ u : Kept X2.heap.size X2, Calls Tryz.prog 86 #[.int .i64 (M.wkN m : Nat), .agg #[.slice A0 (N (M.plc m false)) k0, .slice A1 (N (M.plc m true)) k1], .agg #[.int .i64 (M.pcap T C (M.plc m false)), .int .i64 (M.pcap T C (M.plc m true))]] u.val fun e w' => e = .returned (.int .i64 (s : Nat)) ∧ Below u.val.heap.size u.val w') := Lib.hid (fun u => by
      rw [← HSE.out]
      exact earliest_ok A0 A1 k0 k1 _ _ _ _ _ _ (M.wkN m) (M.span ws) u.val (r0.next u.h) (r1.next u.h) HFS.out (by omega))
    clear lks hsit r0 r1 hV0 hV1
    generalize M.pcap T C (M.plc m false) = cp0 at *
    generalize M.pcap T C (M.plc m true) = cp1 at *
    generalize N (M.plc m false) = nn0 at *
    generalize N (M.plc m true) = nn1 at *
    have hX2 := HX2.out
    go_wp2_with fail
    clear hX2
    refine wp_region_kept X2.heap.size X2 (by kernel_rfl) (by kernel_rfl) (Below.refl _ _) ?_
    repeat (go_big_quiet_step ((go_at_call 86; with_reducible exact Kept.calls (Nat.le_refl _) (kE.out _))))
    refine wpQuiet_nil ?_
    rintro w6 ⟨⟨w6x, hb6⟩, hw6⟩
    dsimp only at hw6
    subst hw6
    clear lk0 lk1 lk2 lk3 kE d0 d1 d2 d3 e5 c10
    have st6 := st2.next hb6
    have z13 := y13.below hb6
    have z14 := x14.below hb6
    have hM6 := hM2.below hb6
    have hW06 : W0.heap.size ≤ w6.heap.size := Nat.le_trans hbX1.size (Nat.le_trans hb42.size hb6.size)
    have hM6' := hM6.more (C' := w6.heap.size) hW06
    have hbw6 : base ≤ w6.heap.size := Nat.le_trans hbw hW06
    have hww6 : w.heap.size ≤ w6.heap.size := Nat.le_trans BW.size hW06
    have h13 : w1.heap.size < W0.heap.size := st.um.own.lt
    obtain ⟨d0, d1, d2, d3⟩ := z14.c4
    have l14' := z14.lt
    clear st st1 st2 x13 y13 x14 hM hM1 hM2 u1 u2 u3 u4 u5 u6 l13 l14 l10 hb6 hb42 hb4 hbX2 hbX1 BX1 HX1 HX2 a0 a1 a2 a3 a4 a5 hlb BW
    generalize W0.heap.size = b13 at *
    go_wp2_with fail
    clear d0 d1 d2 d3
    refine wp_loop_mrg [17, 18, 60, 61, 62, 63, 64, 65, 66, 67, 68, 69, 70, 71, 72, 73, 74, 75] (fun mm f0 ds W2 => ∃ (c nn2 : Nat) (D2 : DataW Value) (V2 : M.Pl → Value) (N2 : M.Pl → Nat), f0 60 = .int .i64 (c : Nat) ∧ 2 - c = mm ∧ c ≤ 2 ∧ nn2 ≤ nn + 52 * c ∧ WS w1 W2 base w1.heap.size b10 nn2 D2 V2 N2 (M.Fc ws m s c) vW ws ∧ Box W2 b13 (mvc m) 66 ∧ base ≤ W2.heap.size ∧ w.heap.size ≤ W2.heap.size ∧ Marks w.heap.size W2.heap.size ds W2) 2 ⟨0, nn, D, V, N, rfl, rfl, Nat.zero_le _, Nat.le_refl _, st6, z13, hbw6, hww6, hM6'⟩ ?_
    clear st6 z13 z14 hM6 hM6'
    intro c2' T2' hc2 hT2
    rintro mm f0 ds W2 ⟨c, nn2, D2, V2, N2, hf60, rfl, hc2', hn2, st7, t13, hbw7, hwW, hM7⟩
    replace hc2 := hc2.out
    subst hc2
    replace hT2 := hT2.out
    subst hT2
    generalize hF : mrgF _ 0 _ _ = F
    simp only [mrg_hit, mrg_miss, mrg_end, Nat.reduceBEq, Nat.reduceAdd] at hF
    rw [hf60] at hF
    subst hF
    clear hf60
    rcases (by omega : c = 0 ∨ c = 1 ∨ c = 2) with rfl | rfl | rfl
    · have q1 : decide ((0 : Int) < 2) = true := by decide
      rw [show ((0 : Nat) : Int) = 0 from rfl]
      refine wp_seq_k ?_
      intro Ka hKa
      have HKa := Lib.hid hKa
      clear hKa
      go_wp2_with fail
      refine HKa.out _ _ ?_
      clear HKa
      refine wp_seq_k ?_
      intro Kb hKb
      have HKb := Lib.hid hKb
      clear hKb
      go_wp2_with fail
      refine HKb.out _ _ ?_
      clear HKb
      refine wp_seq_k ?_
      intro Kc hKc
      refine works_add w1 W2 w.heap.size base w1.heap.size b10 b13 nn2 s 0 D2 V2 N2 (M.Fc ws m s 0) vW ws m (M.plc m false) hpT (idx_pl0 m) HMO.out HB.out st7 t13 h13 hbw7 (fun i => by have := HUS.out (M.plc m false) i; show M.usd ws (M.plc m false) i < 255; omega) (by omega) (by omega) hM7 hwW rfl ?_
      intro y17 y62 y63 y64 y65 y66 ds8 W8 D8 V8 N8 st8 t138 hbw8 hwW8 hM8
      dsimp only
      refine hKc _ _ ?_
      clear hKc
      go_wp2_with fail
      exact ⟨_, rfl, rfl, 1, by omega, 1, nn2 + M.wkN m, D8, V8, N8, rfl, rfl, by omega, by omega, st8, t138, hbw8, hwW8, hM8⟩
    · have q1 : decide ((1 : Int) < 2) = true := by decide
      rw [show ((1 : Nat) : Int) = 1 from rfl]
      refine wp_seq_k ?_
      intro Ka hKa
      have HKa := Lib.hid hKa
      clear hKa
      go_wp2_with fail
      refine HKa.out _ _ ?_
      clear HKa
      refine wp_seq_k ?_
      intro Kb hKb
      have HKb := Lib.hid hKb
      clear hKb
      go_wp2_with fail
      refine HKb.out _ _ ?_
      clear HKb
      refine wp_seq_k ?_
      intro Kc hKc
      refine works_add w1 W2 w.heap.size base w1.heap.size b10 b13 nn2 s 1 D2 V2 N2 (M.Fc ws m s 1) vW ws m (M.plc m true) hpC (idx_pl1 m) HMO.out HB.out st7 t13 h13 hbw7 (fun i => by have h1 := M.addR_le (M.usd ws) (M.plc m false) s (M.wkN m) (M.plc m true) i; have := HUS.out (M.plc m true) i; show M.addR (M.usd ws) (M.plc m false) s (M.wkN m) (M.plc m true) i < 255; omega) (by omega) (by omega) hM7 hwW rfl ?_
      intro y17 y62 y63 y64 y65 y66 ds8 W8 D8 V8 N8 st8 t138 hbw8 hwW8 hM8
      dsimp only
      refine hKc _ _ ?_
      clear hKc
      go_wp2_with fail
      exact ⟨_, rfl, rfl, 0, by omega, 2, nn2 + M.wkN m, D8, V8, N8, rfl, rfl, by omega, by omega, st8.cast (M.addR_usd ws m s), t138, hbw8, hwW8, hM8⟩
    · have q1 : decide ((2 : Int) < 2) = false := by decide
      rw [show ((2 : Nat) : Int) = 2 from rfl]
      obtain ⟨e0, -, -, -, -, e5⟩ := t13.c6'
      rw [← HW3.out] at e5
      have l13 := t13.lt
      have HCS : Hid ([Value.int .i64 m.st, .int .i64 (s : Int), .int .i64 ((s : Int) + (M.wkN m : Int))] = (List.range 3).map (wcell (m, s))) := Lib.hid (by
        rw [show (s : Int) + (M.wkN m : Int) = ((s + M.wkN m : Nat) : Int) by omega]; rfl)
      generalize M.wkN m = wk at *
      go_wp2_with (at_builtin; go_loud (
        refine wpList_push2 (w0 := W2) (cell := wcell) rfl _ _ 85 rfl base base 127 iw _ 24 Tryz.underlying85 Hiw.out Hzw0.out Hzw1.out Hzw2.out rfl (by decide) vW ws.length ws (m, s) rfl st7.ow _ _ HCS.out 1 rfl (w_one _) (by unfold maxLen; omega) (by omega) hbw7 (Nat.le_refl _) (Below.refl _ _) ?_
        intro v9 w9 hown9 hb9 hg9 hl9))
      have st9 := st7.push HB.out hown9 hg9
      have hM9 := (hM7.grown st7.ow hg9).more (C' := w9.heap.size) hg9.size
      rw [← HWN2.out] at st9
      have st10 := st9.cast (F' := M.usd (M.wks T C (l.take (k + 1)))) (by rw [HWN2.out]; rfl)
      exact ⟨_, rfl, rfl, l.length - (k + 1), by omega, k + 1, nn2, D2, V2, N2, rfl, rfl, hlt, by omega, st10, Nat.le_trans hbw7 hg9.size, hM9⟩
  · obtain rfl : k = l.length := by omega
    have q0 : decide ((l.length : Int) < (l.length : Int)) = false := decide_eq_false (by omega)
    have how := st.ow
    rw [List.take_length, M.wks_len HOK.out.1 HOK.out.2] at how
    go_wp2_with fail
    obtain ⟨AW, cW, rfl, hSW⟩ := own_slice (by decide) how
    rw [M.wks_len HOK.out.1 HOK.out.2] at how ⊢
    refine leaves_marks (B := w.heap.size) _ _ hM (fun W' hs => ⟨.tuple #[.slice AW l.length cW, .int .i64 0], ?_, ⟨0, HER.out, .inr ⟨rfl, AW, cW, rfl, ?_⟩⟩, BW.trans (hs.below.mono (Nat.le_refl _))⟩)
    · simp [results, Tryz.results58, go_sem]
    · exact Sl.of_own (by decide) (hs.own how)
end Go.Proofs.YtpkepgcmifdpfaaGreatDoor
end

section
namespace Go.Proofs.YtpkepgcmifdpfaaGreatDoor
open Go Go.RowKit
set_option maxRecDepth 100000
structure TrA where
  P : Option Addr
  p : Nat
  L : Option Addr
  l : Nat
  T : Option Addr
  t : Nat
  C : Option Addr
  c : Nat
abbrev trc (a : TrA) (t : Tr) : Array Value := #[.slice a.P t.ps.length a.p, .slice a.L t.l.length a.l, .slice a.T t.T.length a.t, .slice a.C t.C.length a.c, .int .i64 t.lm, .int .i64 t.lw]
abbrev trV (a : TrA) (t : Tr) : Value := .agg (trc a t)
structure TrM (w : World) (a : TrA) (t : Tr) : Prop where
  P : Sl 5 p5cell w w.heap.size a.P t.ps
  L : Sl 6 mvcell w w.heap.size a.L t.l
  T : Sl 2 sicell w w.heap.size a.T t.T
  C : Sl 2 sicell w w.heap.size a.C t.C
  hL : t.l.length ≤ 9223372036854775806
  hT : t.T.length ≤ 9223372036854775806
  hC : t.C.length ≤ 9223372036854775806
  hw : ∀ p ∈ t.ps, M.W64 p.a ∧ M.W64 p.b
theorem TrM.next {w w' : World} {a : TrA} {t : Tr} (h : TrM w a t) (hb : Below w.heap.size w w') : TrM w' a t :=
  ⟨(h.P.below hb).more hb.size, (h.L.below hb).more hb.size, (h.T.below hb).more hb.size, (h.C.below hb).more hb.size, h.hL, h.hT, h.hC, h.hw⟩
theorem Box.c6 {w : World} {b : Nat} {t : TypeId} {x0 x1 x2 x3 x4 x5 : Value} (h : Box w b #[x0, x1, x2, x3, x4, x5] t) : w.cell? ⟨b, 0, none⟩ = some x0 ∧ w.cell? ⟨b, 1, none⟩ = some x1 ∧ w.cell? ⟨b, 2, none⟩ = some x2 ∧ w.cell? ⟨b, 3, none⟩ = some x3 ∧ w.cell? ⟨b, 4, none⟩ = some x4 ∧ w.cell? ⟨b, 5, none⟩ = some x5 :=
  ⟨h.cell 0 rfl, h.cell 1 rfl, h.cell 2 rfl, h.cell 3 rfl, h.cell 4 rfl, h.cell 5 rfl⟩
set_option maxHeartbeats 16000000 in
theorem phValid_ok (a : TrA) (t : Tr) (w : World) (ht : TrM w a t) (r : Bool) (hr : r = true ↔ M.trOk t) : Calls Tryz.prog 12 #[trV a t] w fun e w' => e = .returned (.bool r) ∧ Below w.heap.size w w' := by
  have HQ : Hid ((¬ M.trOk t → r = false) ∧ (M.trOk t → r = true)) := Lib.hid ⟨fun h => by cases r <;> simp_all, fun h => hr.2 h⟩
  clear hr
  obtain ⟨X, HX, x0, hB, -⟩ := boxes1 w (trc a t) 28
  have hX := HX.out
  have tx := ht.next hB
  obtain ⟨c0, c1, c2, c3, c4, c5⟩ := x0.c6
  go_enter Tryz.func12, Tryz.ntmps12
  go_wp2_with fail
  clear hX c0 c1 c2 c3 c4 c5
  refine (towerMoves_ok a.L a.l t.l X tx.L tx.hL).mono ?_
  rintro e w1 ⟨⟨r1, rfl, hr1⟩, hb1⟩
  have B1 := after_ hB hb1
  have tx1 := tx.next hb1
  have x1 := x0.below hb1
  obtain ⟨c0, c1, c2, c3, c4, c5⟩ := x1.c6
  cases r1 with
  | false =>
    have HF : Hid (r = false) := Lib.hid (HQ.out.1 (fun h => by have := hr1.2 h.1; cases this))
    clear hr1
    go_wp2_with fail
    go_ret
    exact ⟨by rw [HF.out]; rfl, B1⟩
  | true =>
  have HMO := Lib.hid (hr1.1 rfl)
  clear hr1
  by_cases hT : M.sisOk t.T
  case neg =>
    have HF : Hid (r = false) := Lib.hid (HQ.out.1 (fun h => hT h.2.1))
    have kT := towerSites_ok a.T a.t t.T w1 tx1.T tx1.hT false ⟨(fun h => by cases h), fun h => absurd h hT⟩
    clear hT
    go_wp2_with fail
    refine kT.mono ?_
    rintro e w2 ⟨rfl, hb2⟩
    have B2 := after_ B1 hb2
    go_wp2_with fail
    go_ret
    exact ⟨by rw [HF.out]; rfl, B2⟩
  have kT := towerSites_ok a.T a.t t.T w1 tx1.T tx1.hT true ⟨fun _ => hT, fun _ => rfl⟩
  have HT := Lib.hid hT
  clear hT
  go_wp2_with fail
  clear c0 c1 c2 c3 c4 c5
  refine kT.mono ?_
  rintro e w2 ⟨rfl, hb2⟩
  have B2 := after_ B1 hb2
  have tx2 := tx1.next hb2
  have x2 := x1.below hb2
  obtain ⟨c0, c1, c2, c3, c4, c5⟩ := x2.c6
  clear kT
  by_cases hC : M.sisOk t.C
  case neg =>
    have HF : Hid (r = false) := Lib.hid (HQ.out.1 (fun h => hC h.2.2.1))
    have kC := towerSites_ok a.C a.c t.C w2 tx2.C tx2.hC false ⟨(fun h => by cases h), fun h => absurd h hC⟩
    clear hC
    go_wp2_with fail
    refine kC.mono ?_
    rintro e w3 ⟨rfl, hb3⟩
    have B3 := after_ B2 hb3
    go_wp2_with fail
    go_ret
    exact ⟨by rw [HF.out]; rfl, B3⟩
  have kC := towerSites_ok a.C a.c t.C w2 tx2.C tx2.hC true ⟨fun _ => hC, fun _ => rfl⟩
  have HC := Lib.hid hC
  clear hC
  go_wp2_with fail
  clear c0 c1 c2 c3 c4 c5
  refine kC.mono ?_
  rintro e w3 ⟨rfl, hb3⟩
  have B3 := after_ B2 hb3
  have tx3 := tx2.next hb3
  have x3 := x2.below hb3
  obtain ⟨c0, c1, c2, c3, c4, c5⟩ := x3.c6
  clear kC
  by_cases n0 : 1 ≤ t.lm
  case neg =>
    have q0 : decide (1 ≤ t.lm) = false := decide_eq_false n0
    have HF : Hid (r = false) := Lib.hid (HQ.out.1 (fun h => n0 h.2.2.2.1))
    clear n0
    go_wp2_with fail
    go_ret
    exact ⟨by rw [HF.out]; rfl, B3⟩
  have q0 : decide (1 ≤ t.lm) = true := decide_eq_true n0
  have N0 := Lib.hid n0
  clear n0
  by_cases n1 : t.lm ≤ 512
  case neg =>
    have q1 : decide (t.lm ≤ 512) = false := decide_eq_false n1
    have HF : Hid (r = false) := Lib.hid (HQ.out.1 (fun h => n1 h.2.2.2.2.1))
    clear n1
    go_wp2_with fail
    go_ret
    exact ⟨by rw [HF.out]; rfl, B3⟩
  have q1 : decide (t.lm ≤ 512) = true := decide_eq_true n1
  have N1 := Lib.hid n1
  clear n1
  by_cases n2 : 1 ≤ t.lw
  case neg =>
    have q2 : decide (1 ≤ t.lw) = false := decide_eq_false n2
    have HF : Hid (r = false) := Lib.hid (HQ.out.1 (fun h => n2 h.2.2.2.2.2.1))
    clear n2
    go_wp2_with fail
    go_ret
    exact ⟨by rw [HF.out]; rfl, B3⟩
  have q2 : decide (1 ≤ t.lw) = true := decide_eq_true n2
  have N2 := Lib.hid n2
  clear n2
  by_cases n3 : t.lw ≤ 1048576
  case neg =>
    have q3 : decide (t.lw ≤ 1048576) = false := decide_eq_false n3
    have HF : Hid (r = false) := Lib.hid (HQ.out.1 (fun h => n3 h.2.2.2.2.2.2))
    clear n3
    go_wp2_with fail
    go_ret
    exact ⟨by rw [HF.out]; rfl, B3⟩
  have q3 : decide (t.lw ≤ 1048576) = true := decide_eq_true n3
  have N3 := Lib.hid n3
  clear n3
  have HF : Hid (r = true) := Lib.hid (HQ.out.2 ⟨HMO.out, HT.out, HC.out, N0.out, N1.out, N2.out, N3.out⟩)
  go_wp2_with fail
  go_ret
  exact ⟨by rw [HF.out]; rfl, B3⟩
set_option maxHeartbeats 16000000 in
theorem phCheck_ok (a : TrA) (t : Tr) (w : World) (ht : TrM w a t) : Calls Tryz.prog 56 #[trV a t] w fun e w' => (∃ er, M.trIs t er ∧ e = .returned (.int .i64 er)) ∧ Below w.heap.size w w' := by
  obtain ⟨X, HX, x0, hB, -⟩ := boxes1 w (trc a t) 28
  have hX := HX.out
  have tx := ht.next hB
  obtain ⟨c0, c1, c2, c3, c4, c5⟩ := x0.c6
  by_cases hv : M.trOk t
  case neg =>
    have kV := phValid_ok a t X tx false ⟨(fun h => by cases h), fun h => absurd h hv⟩
    have HV := Lib.hid hv
    clear hv
    go_enter Tryz.func56, Tryz.ntmps56
    go_wp2_with fail
    clear hX
    refine kV.mono ?_
    rintro e w1 ⟨rfl, hb1⟩
    go_wp2_with fail
    go_ret
    exact ⟨⟨2, .inr (.inr (.inr ⟨HV.out, rfl⟩)), rfl⟩, after_ hB hb1⟩
  have kV := phValid_ok a t X tx true ⟨fun _ => hv, fun _ => rfl⟩
  have HV := Lib.hid hv
  clear hv
  go_enter Tryz.func56, Tryz.ntmps56
  go_wp2_with fail
  clear hX c0 c1 c2 c3 c4 c5
  refine kV.mono ?_
  rintro e w1 ⟨rfl, hb1⟩
  have B1 := after_ hB hb1
  have tx1 := tx.next hb1
  have x1 := x0.below hb1
  obtain ⟨c0, c1, c2, c3, c4, c5⟩ := x1.c6
  by_cases hbig : 20000 < t.ps.length
  · have q0 : decide ((20000 : Int) < (t.ps.length : Int)) = true := decide_eq_true (by omega)
    have HB := Lib.hid hbig
    go_wp2_with fail
    go_ret
    exact ⟨⟨7, .inr (.inr (.inl ⟨HV.out, HB.out, rfl⟩)), rfl⟩, B1⟩
  have q0 : decide ((20000 : Int) < (t.ps.length : Int)) = false := decide_eq_false (by omega)
  have kB := towerBound_ok a.L a.T a.C a.l a.t a.c t.l t.T t.C w1 tx1.L tx1.T tx1.C tx1.hL tx1.hT tx1.hC
  have HB : Hid (t.ps.length ≤ 20000) := Lib.hid (by omega)
  go_wp2_with fail
  refine kB.mono ?_
  rintro e w2 ⟨⟨er, v, her, rfl⟩, hb2⟩
  have HER : Hid (M.trIs t er) := Lib.hid (by
    rcases her with ⟨h1, h2, rfl⟩ | ⟨h1, h2, rfl⟩ | ⟨h1, rfl⟩
    · exact .inl ⟨HV.out, HB.out, h2, rfl⟩
    · exact .inr (.inl ⟨HV.out, HB.out, h2, rfl⟩)
    · exact absurd ⟨HV.out.1, HV.out.2.1, HV.out.2.2.1⟩ h1)
  clear her kB
  go_wp2_with fail
  go_ret
  exact ⟨⟨er, HER.out, rfl⟩, after_ B1 hb2⟩
end Go.Proofs.YtpkepgcmifdpfaaGreatDoor
end

section
namespace Go.Proofs.YtpkepgcmifdpfaaGreatDoor
open Go Go.RowKit Go.Maps
set_option maxRecDepth 100000
section phase
theorem rowPlaceP : (113 : TypeId) < Tryz.prog.types.size := of_decide_eq_true (by kernel_rfl)
theorem cellsPlaceP : Tryz.prog.cellsOf 113 = 2 := by kernel_rfl
theorem widePlaceP : (match Tryz.prog.underlying 113 with | some (.array _ _) | some (.struct _) => true | _ => false) = true := by rw [Tryz.underlying113]
theorem placePLaw : WideMaps.KeyLaw Tryz.prog 113 := deep_law_laid laidOutG (m := 2) (by omega) rowPlaceP (by kernel_rfl) widePlaceP
theorem placePKeyed : Keyed Tryz.prog 113 := Keyed.of_law placePLaw
theorem keyTypePlaceP : Tryz.prog.keyType 113 = true := by kernel_rfl
theorem placeP_key {p : M.Pl} (h : 0 ≤ p.2 ∧ p.2 ≤ 1000000) : keyOf Tryz.prog 113 (plv p) = some (plit p) := by
  obtain ⟨m, hm⟩ : ∃ m, Tryz.prog.types.size + 1 = m + 2 := by
    obtain ⟨k, hk⟩ := Nat.exists_eq_add_of_lt rowPlaceP
    exact ⟨_ + k, by rw [hk]⟩
  have hf : (plv p).formed Tryz.prog 113 = true := by simp [Value.formed, Tryz.underlying113, cellsPlaceP]
  have h2 : (Lit.int .i64 p.2).wf = true := wf64 ⟨by omega, by omega⟩
  have hk : Tryz.prog.keyLits (m + 2) 113 [.bool p.1, .int .i64 p.2] = some [.bool p.1, .int .i64 p.2] := by
    simp [Program.keyLits, Tryz.underlying113, Tryz.underlying3, Tryz.underlying4, cellsPlaceP, cellsBoolP, cellsIntG, h2]
  unfold keyOf plit
  rw [Tryz.underlying113, keyTypePlaceP, hf, hm]
  simp only [Bool.and_self, if_true]
  rw [show (plv p).cells.toList = [.bool p.1, .int .i64 p.2] from rfl, hk]
  rfl
end phase
structure MvD (D : DataW Value) (l : List Mv) (k : Nat) : Prop where
  map : IsMap D
  hit : ∀ i (hi : i < l.length), i < k → (∀ z, D.atKey (.int .i64 l[i].st) z = .held (mvv l[i])) ∧ Maps.has D (.int .i64 l[i].st) = true
  miss : ∀ st, (∀ i (hi : i < l.length), i < k → l[i].st ≠ st) → Maps.has D (.int .i64 st) = false
theorem MvD.start (l : List Mv) : MvD (.map []) l 0 := ⟨isMap_empty, fun i _ h => absurd h (by omega), fun st _ => rfl⟩
theorem MvD.put {D : DataW Value} {l : List Mv} {k : Nat} (h : MvD D l k) (hp : l.Pairwise fun x y => x.st < y.st) (hk : k < l.length) : MvD (D.put (.int .i64 l[k].st) (.held (mvv l[k]))) l (k + 1) := by
  have hne : ∀ i (hi : i < l.length), i < k → (Lit.int .i64 l[i].st) ≠ .int .i64 l[k].st := fun i hi hlt e => by
    have := M.mvsOk_inj hp hi hk (by injection e)
    omega
  refine ⟨h.map.put _ _, fun i hi hlt => ?_, fun st hst => ?_⟩
  · by_cases e : i = k
    · subst e
      exact ⟨fun z => atKey_put_same h.map (by simp [WideAt.IsKeyLit]) _ _, has_put_same h.map (by simp [WideAt.IsKeyLit]) _⟩
    · have h2 := h.hit i hi (by omega)
      exact ⟨fun z => (atKey_put_other (hne i hi (by omega)) _ _).trans (h2.1 z), (has_put_other (hne i hi (by omega)) _).trans h2.2⟩
  · rw [has_put_other]
    · exact h.miss st (fun i hi hlt => hst i hi (by omega))
    · intro e
      injection e with _ e
      exact hst k hk (by omega) e.symm
theorem M.cap_own {l : List Si} (h : M.sisOk l) {k : Nat} (hk : k < l.length) : M.cap l l[k].id = l[k].cp :=
  M.cap_hit hk rfl (fun j hj hlt e => by
    have := (List.pairwise_iff_getElem.1 h.2) j k hj hk hlt
    omega)
theorem M.si_le {s : Si} (h : M.siOk s = true) (c : Bool) : 0 ≤ ((c, s.id) : M.Pl).2 ∧ ((c, s.id) : M.Pl).2 ≤ 1000000 := by
  have := M.siOk_iff.1 h
  exact ⟨this.1, by show s.id ≤ 1000000; omega⟩
theorem M.siLen {l : List Si} (h : M.sisOk l) : l.length ≤ 256 := by
  have h1 : ∀ k (hk : k < l.length), (k : Int) ≤ l[k].id := fun k => by
    induction k with
    | zero => intro hk; exact (M.siOk_iff.1 (h.1 _ (List.getElem_mem hk))).1
    | succ k ih =>
      intro hk
      have h2 := ih (by omega)
      have h3 := (List.pairwise_iff_getElem.1 h.2) k (k + 1) (by omega) hk (by omega)
      omega
  rcases Nat.lt_or_ge 256 l.length with h2 | h2
  · have h3 := h1 256 h2
    have := M.siOk_iff.1 (h.1 _ (List.getElem_mem h2))
    omega
  · exact h2
def M.stPl (T C : List Si) : List M.Pl := T.map (fun s => (false, s.id)) ++ C.map (fun s => (true, s.id))
structure MD (w : World) (b : Nat) (a : TrA) (t : Tr) : Prop where
  good : M.trGood t
  tr : TrM w a t
  ex : ∃ (bv nv bs ns : Nat) (Dv : DataW Value) (Ds : DataW Unit), Box w b #[.slice a.P t.ps.length a.p, .slice a.L t.l.length a.l, .slice a.T t.T.length a.t, .slice a.C t.C.length a.c, .int .i64 t.lm, .int .i64 t.lw, .map (some bv), .map (some bs)] 111 ∧
    w.ownsMap Tryz.prog 3 rawE bv nv Dv ∧ MvD Dv t.l t.l.length ∧ w.ownsMap Tryz.prog 113 (plainElem (H := Unit) Tryz.prog 3) bs ns Ds ∧ PD (M.pcap t.T t.C) Ds (M.stPl t.T t.C)
theorem MD.next {w w' : World} {b : Nat} {a : TrA} {t : Tr} (h : MD w b a t) (hb : Below w.heap.size w w') : MD w' b a t := by
  obtain ⟨g, tr, bv, nv, bs, ns, Dv, Ds, h1, h2, h3, h4, h5⟩ := h
  exact ⟨g, tr.next hb, bv, nv, bs, ns, Dv, Ds, h1.below hb, h2.kept (below_grown hb) (by simp), h3, h4.kept (below_grown hb) (by simp), h5⟩
set_option maxHeartbeats 64000000 in
theorem build_ok (a : TrA) (t : Tr) (w : World) (ht : TrM w a t) : Calls Tryz.prog 30 #[trV a t] w fun e w' => (∃ er, M.trIs t er ∧ ((er ≠ 0 ∧ e = .returned (.tuple #[.pointer none, .int .i64 er])) ∨ (er = 0 ∧ ∃ b, e = .returned (.tuple #[.pointer (some ⟨b, 0, none⟩), .int .i64 0]) ∧ w.heap.size ≤ b ∧ MD w' b a t))) ∧ Below w.heap.size w w' := by
  obtain ⟨X, HX, x1, hB, -⟩ := boxes1 w (trc a t) 28
  have hX := HX.out
  have tx := ht.next hB
  obtain ⟨c0, c1, c2, c3, c4, c5⟩ := x1.c6
  have kC := phCheck_ok a t X tx
  go_enter Tryz.func30, Tryz.ntmps30
  go_wp2_with fail
  clear hX c0 c1 c2 c3 c4 c5
  refine kC.mono ?_
  rintro e w1 ⟨⟨er, her, rfl⟩, hb1⟩
  clear kC
  have B1 := after_ hB hb1
  have HER := Lib.hid her
  by_cases hne : er = 0
  case neg =>
    have q0 : (er == 0) = false := by simpa using hne
    have q1 : (er != 0) = true := by simpa using hne
    have HE0 := Lib.hid hne
    clear her hne
    go_wp2_with fail
    go_ret2
    exact ⟨⟨er, HER.out, .inl ⟨HE0.out, rfl⟩⟩, B1⟩
  subst hne
  have HG : Hid (M.trGood t) := Lib.hid (M.trIs_zero her)
  clear her
  have tx1 := tx.next hb1
  have y1 := x1.below hb1
  obtain ⟨c0, c1, c2, c3, c4, c5⟩ := y1.c6
  have hmm := @run_makeMap Tryz.prog
  obtain ⟨U, HU⟩ : ∃ U, Hid (w1.alloc (.map #[] 0) = U) := ⟨_, Lib.hid rfl⟩
  obtain ⟨U2, HU2⟩ : ∃ U2, Hid (U.alloc (.map #[] 0) = U2) := ⟨_, Lib.hid rfl⟩
  have hU := HU.out
  have hU2 := HU2.out
  have hbU : Below w1.heap.size w1 U := by rw [← hU]; exact (Below.refl _ _).alloc (Nat.le_refl _) _
  have hsU : U.heap.size = w1.heap.size + 1 := by rw [← hU]; simp
  have hbU2 : Below U.heap.size U U2 := by rw [← hU2]; exact (Below.refl _ _).alloc (Nat.le_refl _) _
  have hsU2 : U2.heap.size = U.heap.size + 1 := by rw [← hU2]; simp
  have hownU : U.ownsMap Tryz.prog 3 rawE w1.heap.size 0 (.map []) := by rw [← hU]; exact World.ownsMap_made _ _ _ _
  have hownU2 : U2.ownsMap Tryz.prog 113 (plainElem (H := Unit) Tryz.prog 3) U.heap.size 0 (.map []) := by rw [← hU2]; exact World.ownsMap_made _ _ _ _
  obtain ⟨Y, HY, xm, hbY, hsY⟩ := boxes1 U2 #[.slice a.P t.ps.length a.p, .slice a.L t.l.length a.l, .slice a.T t.T.length a.t, .slice a.C t.C.length a.c, .int .i64 t.lm, .int .i64 t.lw, .map (some w1.heap.size), .map (some U.heap.size)] 111
  have hb1Y := after_ hbU (after_ hbU2 hbY)
  have B2 := after_ B1 hb1Y
  have z1 := y1.below hb1Y
  have hov := hownU.kept (below_grown (after_ hbU2 hbY)) (by simp)
  have hos := hownU2.kept (below_grown hbY) (by simp)
  have hw0 : w.heap.size < w1.heap.size := y1.lt
  have HO : Hid (w.heap.size < w1.heap.size ∧ w1.heap.size < U.heap.size ∧ U.heap.size < U2.heap.size) := Lib.hid ⟨hw0, by omega, by omega⟩
  have hY := HY.out
  obtain ⟨d0, d1, d2, d3, d4, d5⟩ := z1.c6
  clear hsU hsU2 hsY
  go_wp2_with fail
  clear hU hU2 hmm hY d0 d1 d2 d3 d4 d5 c0 c1 c2 c3 c4 c5
  clear hB hb1 hbU hbU2 hbY hb1Y hownU hownU2 y1 x1 HX HU HU2 HY tx tx1
  generalize w1.heap.size = bv at *
  generalize U.heap.size = bs at *
  generalize U2.heap.size = bm at *
  go_loopw [7, 25] (fun _ i wr => ∃ (k nv : Nat) (Dv : DataW Value), k ≤ t.l.length ∧ nv ≤ k ∧ i = .int .i64 k ∧ Below w.heap.size w wr ∧ Box wr w.heap.size (trc a t) 28 ∧ Box wr bm #[.slice a.P t.ps.length a.p, .slice a.L t.l.length a.l, .slice a.T t.T.length a.t, .slice a.C t.C.length a.c, .int .i64 t.lm, .int .i64 t.lw, .map (some bv), .map (some bs)] 111 ∧ wr.ownsMap Tryz.prog 3 rawE bv nv Dv ∧ wr.ownsMap Tryz.prog 113 (plainElem (H := Unit) Tryz.prog 3) bs 0 (.map []) ∧ Hid (MvD Dv t.l k)) (fun _ i _ => t.l.length - (intOf i).toNat)
  case atStart => exact ⟨0, 0, .map [], Nat.zero_le _, Nat.le_refl _, rfl, B2, z1, xm, hov, hos, Lib.hid (MvD.start _)⟩
  case round =>
    clear B2 z1 xm hov hos
    obtain ⟨k, nv, Dv, hk, hnv, rfl, hBr, x1, xm, hv, hs, HM⟩ := hrel
    by_cases hlt : k < t.l.length
    · obtain ⟨la, hla, hlb, a0, a1, a2, a3, a4, a5⟩ := ((ht.L.below hBr).more (B' := wr.heap.size) hBr.size).mv6 hlt
      have x0 : (0 : Int) ≤ (k : Int) := by omega
      have y0 : (k : Int) < (t.l.length : Int) := by omega
      have q0 : decide ((k : Int) < (t.l.length : Int)) = true := decide_eq_true y0
      have hl5 := HG.out.1.1.1
      have HMN := Lib.hid (HM.out.put HG.out.1.1.2.2 hlt)
      have hst := mvOk_st (HG.out.1.1.2.1 t.l[k] (List.getElem_mem hlt))
      have HKEY := Lib.hid (Maps.keyOf_int_mk (P := Tryz.prog) Tryz.underlying3 (wf64 ⟨by omega, by omega⟩ : (Lit.int .i64 t.l[k].st).wf = true))
      generalize t.l[k] = m at *
      obtain ⟨X, HX, u0, hbX, -⟩ := boxes1 wr (mvc m) 66
      have BX := after_ hBr hbX
      have x1X := x1.below hbX
      have xmX := xm.below hbX
      have hvX := hv.kept (below_grown hbX) (by simp)
      have hsX := hs.kept (below_grown hbX) (by simp)
      obtain ⟨u1, u2, u3, u4, u5, u6⟩ := u0.c6'
      have e6 := xmX.cell 6 rfl
      have le := xmX.lt
      have lu := u0.lt
      have hX := HX.out
      generalize haL : a.L = aL at *
      subst hla
      go_wp2_with fail
      clear hX
      refine wp_region_kept_tail 7 X.heap.size X (by kernel_rfl) (by kernel_rfl) (Below.refl _ _) ?_
      simp only [List.take_succ_cons, List.take_zero, List.drop_succ_cons, List.drop_zero]
      iterate 7 (go_big_quiet_step (fail))
      refine wpQuiet_nil ?_
      rintro w5 ⟨⟨w5x, hb5⟩, hw5⟩
      dsimp only at hw5
      subst hw5
      have xm5 := xmX.below hb5
      have x15 := x1X.below hb5
      have B5 := after_ BX hb5
      have hv5 := hvX.kept (below_grown hb5) (by simp)
      have hs5 := hsX.kept (below_grown hb5) (by simp)
      go_wp2_with (at_mapUpdate; refine wpList_mapUpdate_own _ rfl _ _ _ 108 rfl 3 66 (Maps.int_keyed Tryz.underlying3) Tryz.underlying108 _ bv nv _ rfl hv5 (by unfold maxLen; omega) _ _ _ rfl rfl HKEY.out (.held (mvv m)) [] rfl ?_; intro w6 hown6 hg6)
      have hov := HO.out
      have B6 : Below w.heap.size w w6 := B5.grown hg6 B5.size (fun j e => by cases e; omega)
      have x16 := x15.grown hg6 (fun e => by have := Option.some.inj e; omega)
      have xm6 := xm5.grown hg6 (fun e => by have := Option.some.inj e; omega)
      have hs6 := hs5.kept hg6 (fun e => by have := Option.some.inj e; omega)
      go_roundw
      case rel => exact ⟨k + 1, nv + 1, _, hlt, by omega, by go_num, B6, x16, xm6, hown6, hs6, HMN⟩
      case measure => simp [intOf]; omega
    · obtain rfl : k = t.l.length := by omega
      have q0 : decide ((t.l.length : Int) < (t.l.length : Int)) = false := decide_eq_false (by omega)
      obtain ⟨c0, c1, c2, c3, c4, c5⟩ := x1.c6
      go_wp2_with fail
      clear c0 c1 c2 c3 c4 c5 q0
      go_loopw [9, 40] (fun _ i wr => ∃ (k ns : Nat) (Ds : DataW Unit), k ≤ t.T.length ∧ ns ≤ k ∧ i = .int .i64 k ∧ Below w.heap.size w wr ∧ Box wr w.heap.size (trc a t) 28 ∧ Box wr bm #[.slice a.P t.ps.length a.p, .slice a.L t.l.length a.l, .slice a.T t.T.length a.t, .slice a.C t.C.length a.c, .int .i64 t.lm, .int .i64 t.lw, .map (some bv), .map (some bs)] 111 ∧ wr.ownsMap Tryz.prog 3 rawE bv nv Dv ∧ wr.ownsMap Tryz.prog 113 (plainElem (H := Unit) Tryz.prog 3) bs ns Ds ∧ Hid (PD (M.pcap t.T t.C) Ds ((t.T.take k).map fun s => (false, s.id)))) (fun _ i _ => t.T.length - (intOf i).toNat)
      case atStart => exact ⟨0, 0, .map [], Nat.zero_le _, Nat.le_refl _, rfl, hBr, x1, xm, hv, hs, Lib.hid (PD.start _)⟩
      case round =>
        clear hBr x1 xm hv hs
        obtain ⟨k2, ns2, Ds2, hk2, hns2, rfl, hBr, x1, xm, hv, hs, HP2⟩ := hrel
        by_cases hlt : k2 < t.T.length
        · obtain ⟨la, hla, hlb, a0, a1⟩ := ((ht.T.below hBr).more (B' := wr.heap.size) hBr.size).si2 hlt
          have x0 : (0 : Int) ≤ (k2 : Int) := by omega
          have y0 : (k2 : Int) < (t.T.length : Int) := by omega
          have q0 : decide ((k2 : Int) < (t.T.length : Int)) = true := decide_eq_true y0
          have hsk := HG.out.1.2.1
          have hso := hsk.1 t.T[k2] (List.getElem_mem hlt)
          have hsb := M.siOk_iff.1 hso
          have hsb2 := M.si_le hso false
          have hcap := M.cap_own hsk hlt
          have hle := M.siLen hsk
          have hleT := M.siLen HG.out.1.2.1
          have HTK : Hid (t.T.take (k2 + 1) = t.T.take k2 ++ [t.T[k2]]) := Lib.hid (List.take_succ_eq_append_getElem hlt)
          have HPN := Lib.hid (HP2.out.put (p := (false, t.T[k2].id)) hsb2)
          rw [show M.pcap t.T t.C (false, t.T[k2].id) = t.T[k2].cp from hcap] at HPN
          have HKEY := Lib.hid (placeP_key hsb2)
          have HWF : Hid ((Lit.int .i64 t.T[k2].cp).wf = true) := Lib.hid (wf64 ⟨by omega, by omega⟩)
          clear hsk hso hsb hsb2 hcap
          generalize t.T[k2] = s at *
          obtain ⟨X, HX, u0, hbX, -⟩ := boxes1 wr (sic s) 64
          have BX := after_ hBr hbX
          have x1X := x1.below hbX
          have xmX := xm.below hbX
          have hvX := hv.kept (below_grown hbX) (by simp)
          have hsX := hs.kept (below_grown hbX) (by simp)
          obtain ⟨u1, u2⟩ := u0.c2
          have e7 := xmX.cell 7 rfl
          have le := xmX.lt
          have lu := u0.lt
          have hX := HX.out
          generalize haL2 : a.T = aL2 at *
          subst hla
          go_wp2_with fail
          clear hX
          refine wp_region_kept_tail 9 X.heap.size X (by kernel_rfl) (by kernel_rfl) (Below.refl _ _) ?_
          simp only [List.take_succ_cons, List.take_zero, List.drop_succ_cons, List.drop_zero]
          iterate 9 (go_big_quiet_step (fail))
          refine wpQuiet_nil ?_
          rintro w5 ⟨⟨w5x, hb5⟩, hw5⟩
          dsimp only at hw5
          subst hw5
          have xm5 := xmX.below hb5
          have x15 := x1X.below hb5
          have B5 := after_ BX hb5
          have hv5 := hvX.kept (below_grown hb5) (by simp)
          have hs5 := hsX.kept (below_grown hb5) (by simp)
          go_wp2_with (at_mapUpdate; refine wpList_mapUpdate_own _ rfl _ _ _ 109 rfl 113 3 placePKeyed Tryz.underlying109 _ bs ns2 _ rfl hs5 (by unfold maxLen; omega) _ _ _ rfl rfl HKEY.out _ [] (plainElem_int Tryz.underlying3 HWF.out) ?_; intro w6 hown6 hg6)
          have hov := HO.out
          have B6 : Below w.heap.size w w6 := B5.grown hg6 B5.size (fun j e => by cases e; omega)
          have x16 := x15.grown hg6 (fun e => by have := Option.some.inj e; omega)
          have xm6 := xm5.grown hg6 (fun e => by have := Option.some.inj e; omega)
          have hv6 := hv5.kept hg6 (fun e => by have := Option.some.inj e; omega)
          go_roundw
          case rel => exact ⟨k2 + 1, ns2 + 1, _, hlt, by omega, by go_num, B6, x16, xm6, hv6, hown6, Lib.hid (by rw [HTK.out, List.map_append]; exact HPN.out)⟩
          case measure => simp [intOf]; omega
        · obtain rfl : k2 = t.T.length := by omega
          have q0 : decide ((t.T.length : Int) < (t.T.length : Int)) = false := decide_eq_false (by omega)
          obtain ⟨c0, c1, c2, c3, c4, c5⟩ := x1.c6
          have HP2' : Hid (PD (M.pcap t.T t.C) Ds2 (t.T.map (fun s => (false, s.id)) ++ (t.C.take 0).map fun s => (true, s.id))) := Lib.hid (by have := HP2.out; rw [List.take_length] at this; rw [List.take_zero, List.map_nil, List.append_nil]; exact this)
          go_wp2_with fail
          clear c0 c1 c2 c3 c4 c5 q0
          go_loopw [11, 57] (fun _ i wr => ∃ (k ns : Nat) (Ds : DataW Unit), k ≤ t.C.length ∧ ns ≤ ns2 + k ∧ i = .int .i64 k ∧ Below w.heap.size w wr ∧ Box wr w.heap.size (trc a t) 28 ∧ Box wr bm #[.slice a.P t.ps.length a.p, .slice a.L t.l.length a.l, .slice a.T t.T.length a.t, .slice a.C t.C.length a.c, .int .i64 t.lm, .int .i64 t.lw, .map (some bv), .map (some bs)] 111 ∧ wr.ownsMap Tryz.prog 3 rawE bv nv Dv ∧ wr.ownsMap Tryz.prog 113 (plainElem (H := Unit) Tryz.prog 3) bs ns Ds ∧ Hid (PD (M.pcap t.T t.C) Ds (t.T.map (fun s => (false, s.id)) ++ (t.C.take k).map fun s => (true, s.id)))) (fun _ i _ => t.C.length - (intOf i).toNat)
          case atStart => exact ⟨0, ns2, Ds2, Nat.zero_le _, Nat.le_refl _, rfl, hBr, x1, xm, hv, hs, HP2'⟩
          case round =>
            clear hBr x1 xm hv hs
            obtain ⟨k3, ns3, Ds3, hk3, hns3, rfl, hBr, x1, xm, hv, hs, HP3⟩ := hrel
            by_cases hlt : k3 < t.C.length
            · obtain ⟨la, hla, hlb, a0, a1⟩ := ((ht.C.below hBr).more (B' := wr.heap.size) hBr.size).si2 hlt
              have x0 : (0 : Int) ≤ (k3 : Int) := by omega
              have y0 : (k3 : Int) < (t.C.length : Int) := by omega
              have q0 : decide ((k3 : Int) < (t.C.length : Int)) = true := decide_eq_true y0
              have hsk := HG.out.1.2.2.1
              have hso := hsk.1 t.C[k3] (List.getElem_mem hlt)
              have hsb := M.siOk_iff.1 hso
              have hsb2 := M.si_le hso true
              have hcap := M.cap_own hsk hlt
              have hle := M.siLen hsk
              have hleT := M.siLen HG.out.1.2.1
              have HTK : Hid (t.C.take (k3 + 1) = t.C.take k3 ++ [t.C[k3]]) := Lib.hid (List.take_succ_eq_append_getElem hlt)
              have HPN := Lib.hid (HP3.out.put (p := (true, t.C[k3].id)) hsb2)
              rw [show M.pcap t.T t.C (true, t.C[k3].id) = t.C[k3].cp from hcap] at HPN
              have HKEY := Lib.hid (placeP_key hsb2)
              have HWF : Hid ((Lit.int .i64 t.C[k3].cp).wf = true) := Lib.hid (wf64 ⟨by omega, by omega⟩)
              clear hsk hso hsb hsb2 hcap
              generalize t.C[k3] = s at *
              obtain ⟨X, HX, u0, hbX, -⟩ := boxes1 wr (sic s) 64
              have BX := after_ hBr hbX
              have x1X := x1.below hbX
              have xmX := xm.below hbX
              have hvX := hv.kept (below_grown hbX) (by simp)
              have hsX := hs.kept (below_grown hbX) (by simp)
              obtain ⟨u1, u2⟩ := u0.c2
              have e7 := xmX.cell 7 rfl
              have le := xmX.lt
              have lu := u0.lt
              have hX := HX.out
              generalize haL3 : a.C = aL3 at *
              subst hla
              go_wp2_with fail
              clear hX
              refine wp_region_kept_tail 9 X.heap.size X (by kernel_rfl) (by kernel_rfl) (Below.refl _ _) ?_
              simp only [List.take_succ_cons, List.take_zero, List.drop_succ_cons, List.drop_zero]
              iterate 9 (go_big_quiet_step (fail))
              refine wpQuiet_nil ?_
              rintro w5 ⟨⟨w5x, hb5⟩, hw5⟩
              dsimp only at hw5
              subst hw5
              have xm5 := xmX.below hb5
              have x15 := x1X.below hb5
              have B5 := after_ BX hb5
              have hv5 := hvX.kept (below_grown hb5) (by simp)
              have hs5 := hsX.kept (below_grown hb5) (by simp)
              go_wp2_with (at_mapUpdate; refine wpList_mapUpdate_own _ rfl _ _ _ 109 rfl 113 3 placePKeyed Tryz.underlying109 _ bs ns3 _ rfl hs5 (by unfold maxLen; omega) _ _ _ rfl rfl HKEY.out _ [] (plainElem_int Tryz.underlying3 HWF.out) ?_; intro w6 hown6 hg6)
              have hov := HO.out
              have B6 : Below w.heap.size w w6 := B5.grown hg6 B5.size (fun j e => by cases e; omega)
              have x16 := x15.grown hg6 (fun e => by have := Option.some.inj e; omega)
              have xm6 := xm5.grown hg6 (fun e => by have := Option.some.inj e; omega)
              have hv6 := hv5.kept hg6 (fun e => by have := Option.some.inj e; omega)
              go_roundw
              case rel => exact ⟨k3 + 1, ns3 + 1, _, hlt, by omega, by go_num, B6, x16, xm6, hv6, hown6, Lib.hid (by rw [HTK.out, List.map_append, ← List.append_assoc]; exact HPN.out)⟩
              case measure => simp [intOf]; omega
            · obtain rfl : k3 = t.C.length := by omega
              have q0 : decide ((t.C.length : Int) < (t.C.length : Int)) = false := decide_eq_false (by omega)
              have HP4 : Hid (PD (M.pcap t.T t.C) Ds3 (M.stPl t.T t.C)) := Lib.hid (by have := HP3.out; rwa [List.take_length] at this)
              go_wp2_with fail
              go_ret2
              have hov := HO.out
              exact ⟨⟨0, HER.out, .inr ⟨rfl, bm, rfl, by omega, ⟨HG.out, ht.next hBr, bv, nv, bs, ns3, Dv, Ds3, xm, hv, HM.out, hs, HP4.out⟩⟩⟩, hBr⟩
end Go.Proofs.YtpkepgcmifdpfaaGreatDoor
end
