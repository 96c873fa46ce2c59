/- A bundle of texts: GhB3, GhDe, GhDf, GhCl, GeC, GhB4, GhB5, GhB6. -/
import Derived.Test.YtjoomgojnpcbeaaDoorK12
import Derived.Test.YtjoomgojnpcbeaaDoorK16
import Derived.Test.YtjoomgojnpcbeaaDoorK13
import Derived.Test.YtjoomgojnpcbeaaDoorK14
import Derived.Test.YtjoomgojnpcbeaaDoorK01
import Derived.Test.YtjoomgojnpcbeaaDoorK15
import Derived.Test.YtjoomgojnpcbeaaDoorK07
import Derived.Test.YtjoomgojnpcbeaaDoorK02
section
namespace Go.Proofs.YtjoomgojnpcbeaaDoor
open Go Go.RowKit Gh
set_option maxRecDepth 100000
theorem own_trunc {w : World} {base : Nat} {e : TypeId} {g n k c : Nat} {xs : List Value} (h : w.ownsRow base e 1 (.slice (some ⟨g, 0, none⟩) n c) n xs) (hk : k ≤ n) : w.ownsRow base e 1 (.slice (some ⟨g, 0, none⟩) k c) k (xs.take k) := by
  rcases h.2 with ⟨h0, _⟩ | ⟨g', cap, cur, hv, hb, hg, hnc, hcm, hcs, htk⟩
  · cases h0
  · cases hv
    have hl : xs.length = n := by have := h.1; omega
    refine ⟨by rw [List.length_take, hl, Nat.mul_one, Nat.min_eq_left hk], .inr ⟨g, c, cur, rfl, hb, hg, by omega, hcm, hcs, ?_⟩⟩
    rw [Nat.mul_one] at htk ⊢
    rw [← htk, List.take_take, Nat.min_eq_left hk]
theorem own_cap {w : World} {base : Nat} {e : TypeId} {g n c : Nat} {xs : List Value} (h : w.ownsRow base e 1 (.slice (some ⟨g, 0, none⟩) n c) n xs) : n ≤ c := by
  rcases h.2 with ⟨h0, _⟩ | ⟨g', cap, cur, hv, hb, hg, hnc, hcm, hcs, htk⟩
  · cases h0
  · cases hv
    exact hnc
theorem bsl_take (l : List Nat) (k : Nat) : bsl (l.take k) = (bsl l).take k := by unfold bsl; rw [List.map_take]
theorem stk_trunc {w : World} {base g n k c : Nat} {l : List Nat} (h : w.ownsRow base 3 1 (.slice (some ⟨g, 0, none⟩) n c) n (flat 1 icell (bsl l))) (hk : k ≤ n) : w.ownsRow base 3 1 (.slice (some ⟨g, 0, none⟩) k c) k (flat 1 icell (bsl (l.take k))) := by
  have := own_trunc h hk
  rw [flat_ints] at this
  rw [flat_ints, bsl_take, List.map_take]
  exact this
theorem Fr.fresh {a : BA} {W W' W2 : World} {vK vB vK' vB' : Value} {row : Option Nat} (h : Fr a W W' vK vB vK' vB') (hg : W'.grownBy W2 row) (hr : ∀ g, row = some g → W.heap.size ≤ g) : Fr a W W2 vK vB vK' vB' :=
  ⟨hg.os.trans h.os, hg.tape.trans h.tape, hg.output.trans h.output, Nat.le_trans h.size hg.size, fun k hk h1 h2 h3 h4 h5 h6 h7 h8 => (hg.block k (Nat.lt_of_lt_of_le hk h.size) (fun e => by have := hr k e.symm; omega)).trans (h.block k hk h1 h2 h3 h4 h5 h6 h7 h8), h.k, h.b⟩
theorem bsl_at {l : List Nat} {i : Nat} (hi : i < l.length) : (bsl l)[i]'(by rw [bsl_len]; exact hi) = (l[i] : Int) := by unfold bsl; simp
theorem lst_at {w : World} {base g n c : Nat} {l : List Nat} (h : w.ownsRow base 3 1 (.slice (some ⟨g, 0, none⟩) n c) n (flat 1 icell (bsl l))) {i : Nat} (hi : i < l.length) : w.cell? ⟨g, i, none⟩ = some (.int .i64 (l[i] : Nat)) := by
  have := own_at h (k := i) (j := 0) (by rw [bsl_len]; exact hi) (by decide)
  rw [Nat.mul_one, Nat.add_zero] at this
  refine this.1.trans ?_
  rw [bsl_at hi]
  rfl
structure BP (w0 Wc W : World) (a : BA) (pv : Value) (n : Nat) (s : Bk) (x v : Nat) (gK cK : Nat) (vB : Value) (ls : List SLc) (i : Nat) (vC : Value) : Prop where
  st : BSt w0 W a pv n { s with stack := s.stack.take i } (.slice (some ⟨gK, 0, none⟩) i cK) vB ls
  own : W.ownsRow Wc.heap.size 3 1 vC (s.stack.length - i + 1) (flat 1 icell (bsl (v :: (s.stack.drop i).reverse)))
  fr : Fr a Wc W (.slice (some ⟨gK, 0, none⟩) s.stack.length cK) vB (.slice (some ⟨gK, 0, none⟩) i cK) vB
  le : i ≤ s.stack.length
  idx : s.stack.idxOf x < i
set_option maxHeartbeats 32000000 in
theorem pop_loop {Q : Exit → Act → World → Prop} {cd : Code} {l : Nat} {Z0 Z1 Za Zb Ze Zf Zg Zh Zi Zj Zk Zl Zm Zn Zo Zp Zq Zr Zs Zt Zu Zv Zw Zx Zy Zz Z10 Z11 Z12 Z13 Z14 Z15 Z16 Z17 Z18 Z19 Z1a Z1b Z1c Z1d Z1e Z1f Z1g Z1h Z1i Z1j Z1k Z1l Z1m Z1n Z1o Z1p Z1q Z1r Z1s Z1t Z1u Z1v Z1w Z1x Z1y Z1z Z20 Z21 Z22 Z23 Z24 Z25 Z26 Z27 Z28 Z29 Z2a Z2b Z2c Z2d Z2e Z2f Z2g Z2h Z2i Z2j Z2k Z2l Z2m Z2n Z2o Z2p Z2q Z2r Z2s Z2t Z2u Z2v Z2w Z2x Z2y Z2z Z30 Z31 Z32 Z33 Z34 Z35 Z36 Z37 Z38 Z39 Z3a Z3b Z3c Z3d Z3e Z3f Z3g : Value} (w0 Wc W : World) (a : BA) (o : a.Ok) (pv : Value) (n : Nat) (s : Bk) (x v gK cK : Nat) (vB : Value) (ls : List SLc) (vC : Value) (hx : x ∈ s.stack) (hnd : s.stack.Nodup) (hc : a.bV < Wc.heap.size) (hK : gK < Wc.heap.size) (hls : ∀ t ∈ ls, ∀ k, (Value.slice t.A t.xs.length t.c).ownBlock = some k → k < Wc.heap.size) (hlen : s.stack.length ≤ 512) (hp : BP w0 Wc W a pv n s x v gK cK vB ls s.stack.length vC) (hcd : (Tryd.f46.body.bind (blockOf 2)) = some cd)
    (hQ : ∀ (y14 y87 y88 y89 y90 y91 y92 y93 y94 y95 y96 y97 y98 y99 y100 y101 y102 y103 y104 y105 vC' : Value) (W' : World), (BSt w0 W' a pv n { s with stack := s.stack.take (s.stack.idxOf x) } (.slice (some ⟨gK, 0, none⟩) (s.stack.idxOf x) cK) vB ls ∧ W'.ownsRow Wc.heap.size 3 1 vC' (s.stack.length - s.stack.idxOf x + 1) (flat 1 icell (bsl (v :: (s.stack.drop (s.stack.idxOf x)).reverse))) ∧ Fr a Wc W' (.slice (some ⟨gK, 0, none⟩) s.stack.length cK) vB (.slice (some ⟨gK, 0, none⟩) (s.stack.idxOf x) cK) vB) → Q .normal ⟨#[Z0, Z1, ptr a.bK, ptr a.bT, ptr a.bE, ptr a.bL, ptr a.b1, ptr a.bV, ptr a.bS, ptr a.bB, Za, Zb, .int .i64 (x : Nat), vC', y14, Zf, Zg, Zh, Zi, Zj, Zk, Zl, Zm, Zn, Zo, Zp, Zq, Zr, Zs, Zt, Zu, Zv, Zw, Zx, Zy, Zz, Z10, Z11, Z12, Z13, Z14, Z15, Z16, Z17, Z18, Z19, Z1a, Z1b, Z1c, Z1d, Z1e, Z1f, Z1g, Z1h, Z1i, Z1j, Z1k, Z1l, Z1m, Z1n, Z1o, Z1p, Z1q, Z1r, Z1s, Z1t, Z1u, Z1v, Z1w, Z1x, Z1y, Z1z, Z20, Z21, Z22, Z23, Z24, Z25, Z26, Z27, Z28, Z29, Z2a, Z2b, Z2c, Z2d, Z2e, y87, y88, y89, y90, y91, y92, y93, y94, y95, y96, y97, y98, y99, y100, y101, y102, y103, y104, y105, Z2y, Z2z, Z30, Z31, Z32, Z33, Z34, Z35, Z36, Z37, Z38, Z39, Z3a, Z3b, Z3c, Z3d, Z3e, Z3f, Z3g], []⟩ W') :
    cd.wpIn (FR l) 8 Tryd.prog Q ⟨#[Z0, Z1, ptr a.bK, ptr a.bT, ptr a.bE, ptr a.bL, ptr a.b1, ptr a.bV, ptr a.bS, ptr a.bB, Za, Zb, .int .i64 (x : Nat), vC, Ze, Zf, Zg, Zh, Zi, Zj, Zk, Zl, Zm, Zn, Zo, Zp, Zq, Zr, Zs, Zt, Zu, Zv, Zw, Zx, Zy, Zz, Z10, Z11, Z12, Z13, Z14, Z15, Z16, Z17, Z18, Z19, Z1a, Z1b, Z1c, Z1d, Z1e, Z1f, Z1g, Z1h, Z1i, Z1j, Z1k, Z1l, Z1m, Z1n, Z1o, Z1p, Z1q, Z1r, Z1s, Z1t, Z1u, Z1v, Z1w, Z1x, Z1y, Z1z, Z20, Z21, Z22, Z23, Z24, Z25, Z26, Z27, Z28, Z29, Z2a, Z2b, Z2c, Z2d, Z2e, Z2f, Z2g, Z2h, Z2i, Z2j, Z2k, Z2l, Z2m, Z2n, Z2o, Z2p, Z2q, Z2r, Z2s, Z2t, Z2u, Z2v, Z2w, Z2x, Z2y, Z2z, Z30, Z31, Z32, Z33, Z34, Z35, Z36, Z37, Z38, Z39, Z3a, Z3b, Z3c, Z3d, Z3e, Z3f, Z3g], []⟩ W := by
  obtain ⟨i0, hi0, hz0, hz1, hz2⟩ := info_parts intInfoD
  have Hi := Lib.hid hi0; have Hz0 := Lib.hid hz0; have Hz1 := Lib.hid hz1; have Hz2 := Lib.hid hz2
  clear hi0 hz0 hz1 hz2
  rw [show (Tryd.f46.body.bind (blockOf 2)) = some (Code.block 2 _) from rfl] at hcd
  obtain rfl := Option.some.inj hcd
  clear hcd
  gi_wp2
  refine wpIn_loop_mrg [13, 14, 87, 88, 89, 90, 91, 92, 93, 94, 95, 96, 97, 98, 99, 100, 101, 102, 103, 104, 105] (fun mm f W1 => ∃ (i : Nat) (vC1 : Value), f 13 = vC1 ∧ i = mm ∧ BP w0 Wc W1 a pv n s x v gK cK vB ls i vC1) s.stack.length ⟨_, _, rfl, rfl, hp⟩ ?_
  clear hp
  intro c2' T2' hc2 hT2
  rintro mm f W1 ⟨i, vC1, hf13, rfl, hp⟩
  replace hc2 := hc2.out
  subst hc2
  replace hT2 := hT2.out
  subst hT2
  generalize hF : mrgF _ 0 _ _ = F
  simp only [mrg_hit, mrg_miss, mrg_end, Nat.reduceBEq, Nat.reduceAdd] at hF
  rw [hf13] at hF
  subst hF
  clear hf13
  obtain ⟨j, rfl⟩ : ∃ j, i = j + 1 := ⟨i - 1, by have := hp.idx; omega⟩
  have hj : j < s.stack.length := by have := hp.le; omega
  have hlj : (s.stack.take (j + 1)).length = j + 1 := by rw [List.length_take, Nat.min_eq_left hj]
  have oK := hp.st.oK
  dsimp only at oK
  rw [hlj] at oK
  have hcell := lst_at oK (i := j) (by rw [hlj]; exact Nat.lt_succ_self j)
  rw [List.getElem_take] at hcell
  have oK2 := stk_trunc oK (k := j) (Nat.le_succ j)
  rw [List.take_take, Nat.min_eq_left (Nat.le_succ j)] at oK2
  have st2 : BSt w0 (W1.setCell ⟨a.bK, 0, none⟩ (.slice (some ⟨gK, 0, none⟩) j cK)) a pv n { s with stack := s.stack.take j } (.slice (some ⟨gK, 0, none⟩) j cK) vB ls := hp.st.stk (st := s.stack.take j) (v' := .slice (some ⟨gK, 0, none⟩) j cK) o (by rw [List.length_take, Nat.min_eq_left (Nat.le_of_lt hj)]; exact oK2) (World.grownBy.refl W1 _) (.inl rfl)
  have own2 := hp.own.kept (grown_set W1 a.bK 0 (.slice (some ⟨gK, 0, none⟩) j cK)) (.inr (fun e => by have := (hp.own.lt _ e).1; have := o.all; omega))
  have fr2 := hp.fr.trans (Fr.of_K (vK' := .slice (some ⟨gK, 0, none⟩) j cK) (World.grownBy.refl W1 _) (.inl rfl))
  have fr2 := fr2.trans (Fr.of_grown (grown_set W1 a.bK 0 (.slice (some ⟨gK, 0, none⟩) j cK)) (by simp))
  have c0 := hp.st.xK.c1
  have f0 := hp.st.xK.frozen 0
  have hdr : s.stack.length - j + 1 = s.stack.length - (j + 1) + 1 + 1 := by omega
  have hdl : bsl (v :: (s.stack.drop j).reverse) = bsl (v :: (s.stack.drop (j + 1)).reverse) ++ [((s.stack[j] : Nat) : Int)] := by
    rw [List.drop_eq_getElem_cons hj, List.reverse_cons, ← List.cons_append, bsl_snoc]
  have HID := Lib.hid hp.idx
  have HIX : Hid ((s.stack[j] = x → s.stack.idxOf x = j) ∧ (s.stack[j] ≠ x → s.stack.idxOf x < j)) := Lib.hid ⟨fun e => by
      rw [← e]
      exact hnd.idxOf_getElem _ hj, fun e => by
      have h1 := hp.idx
      have h2 : s.stack.idxOf x ≠ j := fun h => e (by
        have h3 := List.getElem_idxOf (List.idxOf_lt_length_of_mem hx)
        rw [← h3]
        congr 1
        exact h.symm)
      omega⟩
  have hcap : j ≤ cK := by have := own_cap oK; omega
  clear hp oK oK2
  obtain ⟨X, hX⟩ : ∃ X, W1.setCell ⟨a.bK, 0, none⟩ (.slice (some ⟨gK, 0, none⟩) j cK) = X := ⟨_, rfl⟩
  rw [hX] at st2 own2 fr2
  have x0 : (0 : Int) ≤ (j : Int) := by omega
  have x1 : (j : Int) < ((j + 1 : Nat) : Int) := by omega
  have hjb : j < 512 := by omega
  have HDR := Lib.hid hdr
  have HDL := Lib.hid hdl
  clear hdr hdl
  generalize s.stack[j] = top at *
  have HQ := Lib.hid hQ
  clear hQ
  by_cases htx : top = x
  · have q0 : ((top : Int) == (x : Int)) = true := by rw [htx]; exact beq_self_eq_true _
    have HJX := Lib.hid (HIX.out.1 htx)
    clear htx
    gi_wp2_with (gi_at_builtin; go_loud (
      refine lift_law rfl (fun _ h => by cases h) (fun K hK => ?_)
      refine wpList_push_at (cell := icell) (y := ((top : Nat) : Int)) rfl _ _ _ rfl Wc.heap.size 3 i0 _ 8 Tryd.underlying31 Hi.out Hz0.out Hz1.out Hz2.out rfl (by decide) _ _ _ rfl own2 _ _ rfl _ rfl (fun _ => rfl) (by unfold maxLen; omega) (by omega) (by have := fr2.size; omega) ?_
      intro v' w' hown' hg' hat'
      refine hK _ _ ?_
      rw [← HDR.out, ← HDL.out] at hown'
      replace hg' : X.grownBy w' vC1.ownBlock := hg'
      have st3 := st2.off_g o hg' (fun k e => by have := (own2.lt k e).1; omega) (fun k e => by
        have h1 := (own2.lt k e).1
        refine ⟨fun e2 => ?_, fun e2 => ?_, fun t ht e2 => ?_⟩
        · have e3 : gK = k := Option.some.inj e2
          omega
        · rcases own_ne own2 st2.lo.outer (by decide) with e4 | e4
          · rw [e4] at e; cases e
          · exact e4 (e.trans e2.symm)
        · have := hls t ht k e2
          omega)
      have fr3 := fr2.fresh hg' (fun k e => (own2.lt k e).1)
      clear st2 own2 fr2 hat' hg'))
    rw [← HJX.out] at st3 hown' fr3
    exact HQ.out _ _ _ _ _ _ _ _ _ _ _ _ _ _ _ _ _ _ _ _ _ _ ⟨st3, hown', fr3⟩
  · have q0 : ((top : Int) == (x : Int)) = false := beq_eq_false_iff_ne.2 (fun e => htx (Int.ofNat_inj.1 e))
    have hix := HIX.out.2 htx
    clear htx
    gi_wp2_with (gi_at_builtin; go_loud (
      refine lift_law rfl (fun _ h => by cases h) (fun K hK => ?_)
      refine wpList_push_at (cell := icell) (y := ((top : Nat) : Int)) rfl _ _ _ rfl Wc.heap.size 3 i0 _ 8 Tryd.underlying31 Hi.out Hz0.out Hz1.out Hz2.out rfl (by decide) _ _ _ rfl own2 _ _ rfl _ rfl (fun _ => rfl) (by unfold maxLen; omega) (by omega) (by have := fr2.size; omega) ?_
      intro v' w' hown' hg' hat'
      refine hK _ _ ?_
      rw [← HDR.out, ← HDL.out] at hown'
      replace hg' : X.grownBy w' vC1.ownBlock := hg'
      have st3 := st2.off_g o hg' (fun k e => by have := (own2.lt k e).1; omega) (fun k e => by
        have h1 := (own2.lt k e).1
        refine ⟨fun e2 => ?_, fun e2 => ?_, fun t ht e2 => ?_⟩
        · have e3 : gK = k := Option.some.inj e2
          omega
        · rcases own_ne own2 st2.lo.outer (by decide) with e4 | e4
          · rw [e4] at e; cases e
          · exact e4 (e.trans e2.symm)
        · have := hls t ht k e2
          omega)
      have fr3 := fr2.fresh hg' (fun k e => (own2.lt k e).1)
      clear st2 own2 fr2 hat' hg'))
    exact ⟨_, rfl, rfl, j, Nat.lt_succ_self j, j, _, rfl, rfl, ⟨st3, hown', fr3, by omega, hix⟩⟩
def shi (f : Nat → Nat) (b : List Nat) (i : Nat) : Nat → Nat := fun j => if j ∈ b.take i then f j + 1 else f j
theorem shi_zero (f : Nat → Nat) (b : List Nat) : shi f b 0 = f := by funext j; simp [shi]
theorem shi_next (f : Nat → Nat) {b : List Nat} (hn : b.Nodup) {i : Nat} (hi : i < b.length) : upd (shi f b i) b[i] (shi f b i b[i] + 1) = shi f b (i + 1) := by
  have hni : b[i] ∉ b.take i := fun h => by
    obtain ⟨k, hk, e⟩ := List.mem_take_iff_getElem.1 h
    have := (List.getElem_inj hn).1 e
    omega
  funext j
  unfold upd shi
  rw [List.take_succ_eq_append_getElem hi]
  by_cases e : j = b[i]
  · subst e
    rw [if_pos rfl, if_neg hni, if_pos (List.mem_append.2 (.inr (List.mem_singleton.2 rfl)))]
  · rw [if_neg e]
    have e2 : (j ∈ b.take i ++ [b[i]]) ↔ j ∈ b.take i := by rw [List.mem_append, List.mem_singleton]; exact or_iff_left e
    simp only [e2]
theorem shi_le {f : Nat → Nat} (h : ∀ j, f j ≤ 512) (b : List Nat) (i j : Nat) : shi f b i j ≤ 513 := by
  unfold shi
  have := h j
  split <;> omega
set_option maxHeartbeats 32000000 in
theorem share_loop {Q : Exit → Act → World → Prop} {cd : Code} {l : Nat} {Z0 Z1 Za Zb Zc Ze Zf Zg Zh Zi Zj Zk Zl Zm Zn Zo Zp Zq Zr Zs Zt Zu Zv Zw Zx Zy Zz Z10 Z11 Z12 Z13 Z14 Z15 Z16 Z17 Z18 Z19 Z1a Z1b Z1c Z1d Z1e Z1f Z1g Z1h Z1i Z1j Z1k Z1l Z1m Z1n Z1o Z1p Z1q Z1r Z1s Z1t Z1u Z1v Z1w Z1x Z1y Z1z Z20 Z21 Z22 Z23 Z24 Z25 Z26 Z27 Z28 Z29 Z2a Z2b Z2c Z2d Z2e Z2f Z2g Z2h Z2i Z2j Z2k Z2l Z2m Z2n Z2o Z2p Z2q Z2r Z2s Z2t Z2u Z2v Z2w Z2x Z2y Z2z Z30 Z31 Z32 Z33 Z34 Z35 Z36 Z37 Z38 Z39 Z3a Z3b Z3c Z3d Z3e Z3f Z3g : Value} (w0 Wc W : World) (a : BA) (o : a.Ok) (pv : Value) (n : Nat) (s : Bk) (gC m cC : Nat) (b : List Nat) (vK0 vK vB : Value) (ls : List SLc) (hbn : b.Nodup) (hb : ∀ x ∈ b, x < n) (hm : m = b.length) (hm2 : m ≤ 1000) (hsh : ∀ j, s.sh j ≤ 512) (hc : a.bV < Wc.heap.size) (st : BSt w0 W a pv n s vK vB ls) (own : W.ownsRow Wc.heap.size 3 1 (.slice (some ⟨gC, 0, none⟩) m cC) m (flat 1 icell (bsl b))) (fr : Fr a Wc W vK0 vB vK vB) (hcd : (Tryd.f46.body.bind (fromReg 18)) = some cd)
    (hQ : ∀ (y16 y106 y107 y108 y109 y110 y111 y112 y113 y114 y115 y116 y117 y118 : Value) (W' : World), (BSt w0 W' a pv n { s with sh := shi s.sh b b.length } vK vB ls ∧ W'.ownsRow Wc.heap.size 3 1 (.slice (some ⟨gC, 0, none⟩) m cC) m (flat 1 icell (bsl b)) ∧ Fr a Wc W' vK0 vB vK vB) → Q .normal ⟨#[Z0, Z1, ptr a.bK, ptr a.bT, ptr a.bE, ptr a.bL, ptr a.b1, ptr a.bV, ptr a.bS, ptr a.bB, Za, Zb, Zc, .slice (some ⟨gC, 0, none⟩) m cC, Ze, Zf, y16, Zh, Zi, Zj, Zk, Zl, Zm, Zn, Zo, Zp, Zq, Zr, Zs, Zt, Zu, Zv, Zw, Zx, Zy, Zz, Z10, Z11, Z12, Z13, Z14, Z15, Z16, Z17, Z18, Z19, Z1a, Z1b, Z1c, Z1d, Z1e, Z1f, Z1g, Z1h, Z1i, Z1j, Z1k, Z1l, Z1m, Z1n, Z1o, Z1p, Z1q, Z1r, Z1s, Z1t, Z1u, Z1v, Z1w, Z1x, Z1y, Z1z, Z20, Z21, Z22, Z23, Z24, Z25, Z26, Z27, Z28, Z29, Z2a, Z2b, Z2c, Z2d, Z2e, Z2f, Z2g, Z2h, Z2i, Z2j, Z2k, Z2l, Z2m, Z2n, Z2o, Z2p, Z2q, Z2r, Z2s, Z2t, Z2u, Z2v, Z2w, Z2x, y106, y107, y108, y109, y110, y111, y112, y113, y114, y115, y116, y117, y118, Z3b, Z3c, Z3d, Z3e, Z3f, Z3g], []⟩ W') :
    cd.wpIn (FR l) 8 Tryd.prog Q ⟨#[Z0, Z1, ptr a.bK, ptr a.bT, ptr a.bE, ptr a.bL, ptr a.b1, ptr a.bV, ptr a.bS, ptr a.bB, Za, Zb, Zc, .slice (some ⟨gC, 0, none⟩) m cC, Ze, Zf, Zg, Zh, Zi, Zj, Zk, Zl, Zm, Zn, Zo, Zp, Zq, Zr, Zs, Zt, Zu, Zv, Zw, Zx, Zy, Zz, Z10, Z11, Z12, Z13, Z14, Z15, Z16, Z17, Z18, Z19, Z1a, Z1b, Z1c, Z1d, Z1e, Z1f, Z1g, Z1h, Z1i, Z1j, Z1k, Z1l, Z1m, Z1n, Z1o, Z1p, Z1q, Z1r, Z1s, Z1t, Z1u, Z1v, Z1w, Z1x, Z1y, Z1z, Z20, Z21, Z22, Z23, Z24, Z25, Z26, Z27, Z28, Z29, Z2a, Z2b, Z2c, Z2d, Z2e, Z2f, Z2g, Z2h, Z2i, Z2j, Z2k, Z2l, Z2m, Z2n, Z2o, Z2p, Z2q, Z2r, Z2s, Z2t, Z2u, Z2v, Z2w, Z2x, Z2y, Z2z, Z30, Z31, Z32, Z33, Z34, Z35, Z36, Z37, Z38, Z39, Z3a, Z3b, Z3c, Z3d, Z3e, Z3f, Z3g], []⟩ W := by
  subst hm
  rw [show (Tryd.f46.body.bind (fromReg 18)) = some (Code.seq (Code.region 18 _ _) _) from rfl] at hcd
  obtain rfl := Option.some.inj hcd
  clear hcd
  have HQ := Lib.hid hQ
  clear hQ
  gi_wp2
  refine wpIn_loop_mrg [16, 108, 109, 110, 111, 112, 113, 114, 115, 116, 117, 118] (fun mm f W1 => ∃ (i : Nat), f 108 = .int .i64 i ∧ i ≤ b.length ∧ b.length - i = mm ∧ BSt w0 W1 a pv n { s with sh := shi s.sh b i } vK vB ls ∧ W1.ownsRow Wc.heap.size 3 1 (.slice (some ⟨gC, 0, none⟩) b.length cC) b.length (flat 1 icell (bsl b)) ∧ Fr a Wc W1 vK0 vB vK vB) b.length ⟨0, rfl, Nat.zero_le _, rfl, by rw [shi_zero]; exact st, own, fr⟩ ?_
  clear st own fr
  intro c2' T2' hc2 hT2
  rintro mm f W1 ⟨i, hf108, hi, rfl, st, own, fr⟩
  replace hc2 := hc2.out
  subst hc2
  replace hT2 := hT2.out
  subst hT2
  generalize hF : mrgF _ 0 _ _ = F
  simp only [mrg_hit, mrg_miss, mrg_end, Nat.reduceBEq, Nat.reduceAdd] at hF
  rw [hf108] at hF
  subst hF
  clear hf108
  by_cases hlt : i < b.length
  · have q0 : decide ((i : Int) < (b.length : Int)) = true := decide_eq_true (by omega)
    have x0 : (0 : Int) ≤ (i : Int) := by omega
    have x1 : (i : Int) < (b.length : Int) := by omega
    have c0 := lst_at own hlt
    have hbi := hb _ (List.getElem_mem hlt)
    obtain ⟨c1, f1⟩ := num_at st.oS hbi
    have c2 := st.xS.c1
    have hle := shi_le hsh b i b[i]
    have st2 := st.setS o hbi (shi s.sh b i b[i] + 1)
    dsimp only at st2 c1
    rw [shi_next s.sh hbn hlt] at st2
    have own2 := own.kept (grown_set W1 a.gS b[i] (.int .i64 ((shi s.sh b i b[i] + 1 : Nat) : Int))) (.inr (fun e => by have := (own.lt _ e).1; have := o.all; omega))
    have fr2 := fr.trans (Fr.of_grown (grown_set W1 a.gS b[i] (.int .i64 ((shi s.sh b i b[i] + 1 : Nat) : Int))) (by simp))
    clear st own fr
    generalize shi s.sh b i b[i] = sx at *
    generalize b[i] = bi at *
    have x2 : (0 : Int) ≤ (bi : Int) := by omega
    have x3 : (bi : Int) < (n : Int) := by omega
    gi_wp2_with fail
    exact ⟨_, rfl, rfl, b.length - (i + 1), by omega, i + 1, rfl, hlt, rfl, st2, own2, fr2⟩
  · obtain rfl : i = b.length := by omega
    have q0 : decide ((b.length : Int) < (b.length : Int)) = false := decide_eq_false (by omega)
    gi_wp2_with fail
    exact HQ.out _ _ _ _ _ _ _ _ _ _ _ _ _ _ _ ⟨st, own, fr⟩
end Go.Proofs.YtjoomgojnpcbeaaDoor
end

section
namespace Go.Proofs.YtjoomgojnpcbeaaDoor
open Go Go.RowKit Gh
set_option maxRecDepth 100000
structure DgS (w W : World) (b5 g7 b7 base n S : Nat) (f : Nat → Nat) (vO : Value) (o : List Nat) : Prop where
  bel : Below w.heap.size w W
  x5 : Box W b5 (bsc S) 63
  x7 : Box W b7 #[slv g7 n] 31
  o7 : W.ownsRow w.heap.size 3 1 (slv g7 n) n (flat 1 icell (nfl n f))
  oO : W.ownsRow base 3 1 vO o.length (flat 1 icell (bsl o))
section
variable {w W W' : World} {b5 g7 b7 base n S : Nat} {f : Nat → Nat} {vO : Value} {o : List Nat}
theorem DgS.next (h : DgS w W b5 g7 b7 base n S f vO o) (hb : Below W.heap.size W W') : DgS w W' b5 g7 b7 base n S f vO o := ⟨after_ h.bel hb, h.x5.below hb, h.x7.below hb, own_below h.o7 hb, own_below h.oO hb⟩
theorem DgS.own {row : Option Nat} {B : Nat} (h : DgS w W b5 g7 b7 base n S f vO o) (hB : w.heap.size ≤ B) (hg : W.grownBy W' row) (hr : ∀ r, row = some r → B ≤ r ∧ ∃ o : Obj, W.heap[r]? = some o ∧ o.isCells = false) : DgS w W' b5 g7 b7 base n S f vO o :=
  ⟨below_own h.bel hB h.bel.size hg hr, h.x5.own hg hr, h.x7.own hg hr, row_own h.o7 hg hr, row_own h.oO hg hr⟩
theorem DgS.off {b : Nat} (h : DgS w W b5 g7 b7 base n S f vO o) (hb : b5 < g7 ∧ g7 < b7 ∧ b7 < base ∧ w.heap.size ≤ b5) (hg : W.grownBy W' (some b)) (hn : b7 < b) (hO : vO.ownBlock ≠ some b) : DgS w W' b5 g7 b7 base n S f vO o :=
  ⟨h.bel.grown hg h.bel.size (fun k e => by have := Option.some.inj e; omega), h.x5.grown hg (fun e => by have := Option.some.inj e; omega), h.x7.grown hg (fun e => by have := Option.some.inj e; omega), h.o7.kept hg (.inr (fun e => by have e2 : g7 = b := Option.some.inj e; omega)), h.oO.kept hg (.inr hO)⟩
theorem DgS.set7 (h : DgS w W b5 g7 b7 base n S f vO o) (hb : b5 < g7 ∧ g7 < b7 ∧ b7 < base ∧ w.heap.size ≤ b5) {x : Nat} (hx : x < n) (y : Nat) : DgS w (W.setCell ⟨g7, x, none⟩ (.int .i64 y)) b5 g7 b7 base n S (upd f x y) vO o := by
  have hg := grown_set W g7 x (.int .i64 y)
  exact ⟨h.bel.grown hg h.bel.size (fun k e => by have := Option.some.inj e; omega), h.x5.grown hg (fun e => by have := Option.some.inj e; omega), h.x7.grown hg (fun e => by have := Option.some.inj e; omega), num_set h.o7 hx y, h.oO.kept hg (.inr (fun e => by have := (h.oO.lt _ e).1; omega))⟩
theorem DgS.set5 {S' : Nat} (h : DgS w W b5 g7 b7 base n S f vO o) (hb : b5 < g7 ∧ g7 < b7 ∧ b7 < base ∧ w.heap.size ≤ b5) (hg : W.grownBy W' (some b5)) (z : Box W' b5 (bsc S') 63) : DgS w W' b5 g7 b7 base n S' f vO o :=
  ⟨h.bel.grown hg h.bel.size (fun k e => by have := Option.some.inj e; omega), z, h.x7.grown hg (fun e => by have := Option.some.inj e; omega), h.o7.kept hg (.inr (fun e => by have e2 : g7 = b5 := Option.some.inj e; omega)), h.oO.kept hg (.inr (fun e => by have := (h.oO.lt _ e).1; omega))⟩
theorem DgS.push {v' : Value} {x : Nat} (h : DgS w W b5 g7 b7 base n S f vO o) (hb : b5 < g7 ∧ g7 < b7 ∧ b7 < base ∧ w.heap.size ≤ b5) (ho : W'.ownsRow base 3 1 v' (o.length + 1) (flat 1 icell (bsl o ++ [(x : Int)]))) (hg : W.grownBy W' vO.ownBlock) : DgS w W' b5 g7 b7 base n S f v' (o ++ [x]) := by
  have hne : ∀ b, b < base → some b ≠ vO.ownBlock := fun b hb e => by have := (h.oO.lt b e.symm).1; omega
  exact ⟨h.bel.grown hg h.bel.size (fun k e => by have := (h.oO.lt k e).1; omega), h.x5.grown hg (hne _ (by omega)), h.x7.grown hg (hne _ (by omega)), h.o7.kept hg (.inr (hne g7 (by omega))), by rw [List.length_append, bsl_snoc]; exact ho⟩
end
set_option maxHeartbeats 32000000 in
theorem deg_round {Q : Exit → Act → World → Prop} {cd : Code} {ds0 : List Deferred} {Z1 Z2 Z3 Z4 Z6 Z8 Zb Zc Zd Ze Zf Zg Zh Zi Zj Zk Zl Zm Zn Zo Zp Zq Zr Zs Zt Zu Zv Zw Zx Zy Zz Z10 Z11 Z12 Z13 Z14 Z15 Z16 Z17 Z18 Z19 Z1a Z1b Z1c Z1d Z1e Z1f Z1g Z1h Z1i Z1j Z1k Z1l Z1m Z1n Z1o Z1p Z1q Z1r Z1s Z1t Z1u Z1v Z1w Z1x Z1y Z1z Z20 Z21 Z22 Z23 Z24 Z25 Z26 Z27 Z28 Z29 Z2a Z2b Z2c Z2d Z2e Z2f Z2g Z2h Z2i Z2j Z2k : Value} (w W : World) (bg : Nat) (A : Option Addr) (c : Nat) (R : List Nat) (edges : Int) (b5 g7 b7 base S d : Nat) (vO : Value) (o : List Nat) (ht : Tab64 w) (h : GG w bg A c R edges) (hl : R.length ≤ 512) (hfit : ∀ v x, (Dg.row R v).testBit x = true → x < R.length) (hsy : ∀ a c, (Dg.row R a).testBit c = true → (Dg.row R c).testBit a = true) (hb : b5 < g7 ∧ g7 < b7 ∧ b7 < base ∧ w.heap.size ≤ b5) (hbase : base ≤ W.heap.size) (st : DgS w W b5 g7 b7 base R.length S (deg R S) vO o) (hS : Bs.Fit S) (hne : S ≠ 0) (hlt : ∀ v, S.testBit v = true → v < R.length) (ho : o.length ≤ 511) (hM0 : Marks w.heap.size W.heap.size ds0 W) (hcd : (Tryd.f20.body.bind (blockOf 3)) = some cd)
    (hQ : ∀ (y11 y12 y13 y44 y45 y46 y47 y48 y49 y50 y51 y52 y53 y54 y55 y56 y57 y58 y59 y60 y61 y62 y63 y64 y65 y66 y67 y68 y69 y70 y71 y72 y73 y74 y75 y76 y77 y78 y79 y80 y81 y82 y83 y84 y85 y86 y87 y88 y89 vO' : Value) (ds : List Deferred) (W' : World), DgS w W' b5 g7 b7 base R.length (Bs.dif S (2 ^ pick R S)) (deg R (Bs.dif S (2 ^ pick R S))) vO' (o ++ [pick R S]) → base ≤ W'.heap.size → Marks w.heap.size W'.heap.size ds W' → Q .normal ⟨#[.pointer (some ⟨bg, 0, none⟩), Z1, Z2, Z3, Z4, .pointer (some ⟨b5, 0, none⟩), Z6, .pointer (some ⟨b7, 0, none⟩), Z8, vO', .int .i64 (max (d : Int) (deg R S (pick R S) : Int)), y11, y12, y13, Ze, Zf, Zg, Zh, Zi, Zj, Zk, Zl, Zm, Zn, Zo, Zp, Zq, Zr, Zs, Zt, Zu, Zv, Zw, Zx, Zy, Zz, Z10, Z11, Z12, Z13, Z14, Z15, Z16, Z17, y44, y45, y46, y47, y48, y49, y50, y51, y52, y53, y54, y55, y56, y57, y58, y59, y60, y61, y62, y63, y64, y65, y66, y67, y68, y69, y70, y71, y72, y73, y74, y75, y76, y77, y78, y79, y80, y81, y82, y83, y84, y85, y86, y87, y88, y89, Z2i, Z2j, Z2k], ds⟩ W') :
    cd.wp Tryd.prog Q ⟨#[.pointer (some ⟨bg, 0, none⟩), Z1, Z2, Z3, Z4, .pointer (some ⟨b5, 0, none⟩), Z6, .pointer (some ⟨b7, 0, none⟩), Z8, vO, .int .i64 (d : Nat), Zb, Zc, Zd, Ze, Zf, Zg, Zh, Zi, Zj, Zk, Zl, Zm, Zn, Zo, Zp, Zq, Zr, Zs, Zt, Zu, Zv, Zw, Zx, Zy, Zz, Z10, Z11, Z12, Z13, Z14, Z15, Z16, Z17, Z18, Z19, Z1a, Z1b, Z1c, Z1d, Z1e, Z1f, Z1g, Z1h, Z1i, Z1j, Z1k, Z1l, Z1m, Z1n, Z1o, Z1p, Z1q, Z1r, Z1s, Z1t, Z1u, Z1v, Z1w, Z1x, Z1y, Z1z, Z20, Z21, Z22, Z23, Z24, Z25, Z26, Z27, Z28, Z29, Z2a, Z2b, Z2c, Z2d, Z2e, Z2f, Z2g, Z2h, Z2i, Z2j, Z2k], ds0⟩ W := by
  obtain ⟨i0, hi0, hz0, hz1, hz2⟩ := info_parts intInfoD
  have Hi := Lib.hid hi0; have Hz0 := Lib.hid hz0; have Hz1 := Lib.hid hz1; have Hz2 := Lib.hid hz2
  clear hi0 hz0 hz1 hz2
  have HF := Lib.hid hfit
  have HSY := Lib.hid hsy
  have HLT := Lib.hid hlt
  obtain ⟨hf1, hf2⟩ := fst_ok hS hne
  have kM := bsMin_ok S W (ht.kept st.bel)
  rw [hf1] at kM
  have HF2 := Lib.hid hf2
  clear hfit hsy hlt hf1 hf2
  rw [show (Tryd.f20.body.bind (blockOf 3)) = some (Code.block 3 _) from rfl] at hcd
  obtain rfl := Option.some.inj hcd
  clear hcd
  have HQ := Lib.hid hQ
  clear hQ
  obtain ⟨d0, d1, d2, d3, d4, d5, d6, d7⟩ := st.x5.w
  go_wp2_with fail
  clear d0 d1 d2 d3 d4 d5 d6 d7
  refine kM.mono ?_
  rintro e w2 ⟨rfl, hb2⟩
  have HPK : Hid (pick R S = pickF R S (fst S) (Bs.els S 0)) := Lib.hid rfl
  have st2 := st.next hb2
  have hvO : ∀ k, vO.ownBlock = some k → k < w2.heap.size := fun k e => (st2.oO.lt k e).2
  have HVO := Lib.hid hvO
  clear hvO
  obtain ⟨V2, HV2, x11, hbV2, hsV2⟩ := boxes1 w2 #[.int .i64 (fst S : Int)] 3
  have hV2 := HV2.out
  have st3 := st2.next hbV2
  have hM3 := (hM0.below hb2).below hbV2
  have hs2 : base ≤ w2.heap.size := Nat.le_trans hbase hb2.size
  have hsW2 : W.heap.size ≤ w2.heap.size := hb2.size
  obtain ⟨d0, d1, d2, d3, d4, d5, d6, d7⟩ := st3.x5.w
  clear hsV2 kM st st2 hM0
  go_wp2_with fail
  clear hV2 d0 d1 d2 d3 d4 d5 d6 d7
  refine (bsAll_ok S V2).mono ?_
  rintro e w4 ⟨rfl, hb4, hs4, xb⟩
  have st4 := st3.next hb4
  have y11 := x11.below hb4
  have hl11 : w2.heap.size < V2.heap.size := x11.lt
  have hM4 := hM3.below hb4
  have hMZ := hM4.more (C' := V2.heap.size) (by omega)
  clear st3 x11 hM3 hM4
  go_wp2_with fail
  refine wp_range (gf := 65) (lb := #[.pointer (some ⟨V2.heap.size, 0, none⟩)]) rfl (enters_of Tryd.func65 (by kernel_rfl) rfl) (bsAll_seq V2.heap.size S) (fun _ => rfl)
    (fun pre W1 => DgS w W1 b5 g7 b7 base R.length S (deg R S) vO o ∧ Box W1 w2.heap.size #[.int .i64 (pickF R S (fst S) pre : Int)] 3 ∧ Box W1 V2.heap.size (bsc S) 63 ∧ Marks w.heap.size V2.heap.size ds0 W1) (fun _ _ _ => False)
    ?hI (fun _ _ _ _ _ h => h.elim) ?hK ⟨st4, y11, xb, hMZ⟩ ?round ?done (fun _ _ _ h => h.elim)
  case hI => exact fun pre W1 W2 row ⟨h1, h2, h3, h4⟩ hg hr => ⟨h1.own (by have := hb4.size; omega) hg hr, h2.own hg hr, h3.own hg hr, h4.own hb4.size hg hr⟩
  case hK => exact fun pre W1 ⟨h1, h2, h3, h4⟩ => ⟨h3, ht.kept h1.bel⟩
  case round =>
    intro r' pre x post W1 hL hl' hd' hi
    gi_wp2
    refine ⟨hl', hd', hi, fun _ => True, fun _ _ _ _ _ _ _ => trivial, trivial, ?_⟩
    clear hl' hd' hi
    rintro r'' W2 hl2 hd2 ⟨h1, h2, h3, h4⟩ -
    have hxT : S.testBit x = true := (Bs.mem_els hS).1 (by rw [hL]; simp)
    have hxR := HLT.out x hxT
    have hbR := HLT.out _ (pickF_bit (R := R) (l := pre) (fun q hq => (Bs.mem_els hS).1 (by rw [hL]; simp [hq])) HF2.out)
    have HP : Hid (pickF R S (fst S) (pre ++ [x]) = if deg R S x < deg R S (pickF R S (fst S) pre) then x else pickF R S (fst S) pre) := Lib.hid (pickF_snoc R S (fst S) pre x)
    clear hL hxT
    generalize pickF R S (fst S) (pre ++ [x]) = p' at *
    generalize pickF R S (fst S) pre = p at *
    have c0 := h1.x7.c1
    have c1 := h2.c1
    have c2 := (num_at h1.o7 hxR).1
    have c3 := (num_at h1.o7 hbR).1
    have x0 : (0 : Int) ≤ (x : Int) := by omega
    have x1 : (x : Int) < (R.length : Int) := by omega
    have x2 : (0 : Int) ≤ (p : Int) := by omega
    have x3 : (p : Int) < (R.length : Int) := by omega
    gi_wp2_with fail
    refine wpIn_region_drw (by kernel_rfl) (by kernel_rfl) (by kernel_rfl) ?_
    iterate 9 (go_big_quiet_step (fail))
    refine wpQuiet_nil ?_
    rintro w5 ⟨⟨q⟩, rfl⟩
    dsimp only [Drw.val]
    have hbq : Below W2.heap.size W2 (W2.drewN q) := below_drewN (Below.refl _ _) q
    have k1 := h1.next hbq
    have k2 := h2.below hbq
    have k3 := h3.below hbq
    have k4 := h4.below hbq
    have kl := hl2.below hbq
    have kd := hd2.below hbq
    clear c0 c1 c2 c3 h1 h2 h3 h4 hl2 hd2 hbq
    generalize W2.drewN q = X at *
    by_cases hdl : deg R S x < deg R S p
    · have q0 : decide ((deg R S x : Int) < (deg R S p : Int)) = true := decide_eq_true (by omega)
      rw [if_pos hdl] at HP
      have c1 := k2.c1
      have f1 := k2.frozen 0
      have hg := grown_set X w2.heap.size 0 (.int .i64 (x : Int))
      have m1 := k1.off hb hg (by omega) (fun e => by have := HVO.out _ e; omega)
      have m2 := k2.set 0 (.int .i64 (x : Int))
      have m3 := k3.set_other (p := ⟨w2.heap.size, 0, none⟩) (by dsimp only; omega) (.int .i64 (x : Int))
      have m4 := k4.set_other (i := 0) k2 (.int .i64 (x : Int))
      have ml := kl.set_other (p := ⟨w2.heap.size, 0, none⟩) (kl.ne_box rfl k2) (.int .i64 (x : Int))
      have md := kd.set_other (p := ⟨w2.heap.size, 0, none⟩) (kd.ne_box rfl k2) (.int .i64 (x : Int))
      gi_wp2_with fail
      change _ ∧ _ ∧ _
      exact ⟨ml, md, m1, by rw [HP.out]; exact m2, m3, m4⟩
    · have q0 : decide ((deg R S x : Int) < (deg R S p : Int)) = false := decide_eq_false (by omega)
      rw [if_neg hdl] at HP
      gi_wp2_with fail
      change _ ∧ _ ∧ _
      exact ⟨kl, kd, k1, by rw [HP.out]; exact k2, k3, k4⟩
  case done =>
    rintro W1 ⟨h1, h2, h3, h4⟩ hD
    rw [← HPK.out] at h2
    have hp : S.testBit (pick R S) = true := pickF_bit (R := R) (l := Bs.els S 0) (fun q hq => (Bs.mem_els hS).1 hq) HF2.out
    have hpR := HLT.out _ hp
    have HLW : Hid (lowd (deg R S) (Bs.els (Dg.row R (pick R S)) 0) = deg R (Bs.dif S (2 ^ pick R S))) := Lib.hid (lowd_all (fun a q hq => by have := HF.out a q hq; omega) HSY.out (by omega) hp)
    have hdp := deg_le R S (pick R S)
    generalize pick R S = p at *
    have c0 := h1.x7.c1
    have c1 := h2.c1
    have c2 := (num_at h1.o7 hpR).1
    have x0 : (0 : Int) ≤ (p : Int) := by omega
    have x1 : (p : Int) < (R.length : Int) := by omega
    have hDl := hD.lt
    have hM5 := h4.cons (D := w4.heap.size) (by have := hb4.size; omega) hb4.size hD
    obtain ⟨ds5, hds5⟩ : ∃ ds5, (mark w4.heap.size :: ds0) = ds5 := ⟨_, rfl⟩
    go_wp2_with (at_builtin; go_loud (
      refine wpList_push_at (cell := icell) (y := (p : Int)) rfl _ _ _ rfl base 3 i0 _ 8 Tryd.underlying31 Hi.out Hz0.out Hz1.out Hz2.out rfl (by decide) _ _ _ rfl h1.oO _ _ rfl _ rfl (fun _ => rfl) (by unfold maxLen; omega) (by omega) (by have := h1.bel; have := h2.lt; omega) ?_
      intro v6 w6 hown6 hg6 hat6
      replace hg6 : W1.grownBy w6 vO.ownBlock := hg6
      have st6 := h1.push (x := p) hb hown6 hg6
      have h26 := h2.grown hg6 (fun e => by have := HVO.out _ e.symm; omega)
      have hM6 := hM5.grown h1.oO hg6
      have c3 := h26.c1
      obtain ⟨d0, d1, d2, d3, d4, d5, d6, d7⟩ := st6.x5.w))
    have HHV := Lib.hid (ownsRow_succ hown6)
    have hlO6 : ∀ k, v6.ownBlock = some k → k < w6.heap.size := fun k e => (hown6.lt k e).2
    have HLO6 := Lib.hid hlO6
    clear hown6 hat6 hlO6 h1 h2 h4 hM5 c0 c1 c2
    refine (bsRemove_ok S p w6 (by omega)).mono ?_
    rintro e w7 ⟨rfl, hb7⟩
    clear d0 d1 d2 d3 d4 d5 d6 d7
    have st7 := st6.next hb7
    have x27 := h26.below hb7
    have hM7 := hM6.below hb7
    obtain ⟨Y, HY, z, hBY, hsY, hoY⟩ := store8 w7 b5 (Bs.dif S (2 ^ p)) _ _ st7.x5 rfl
    have hgY := grown8 HY.out
    have st8 := st7.set5 hb hgY z
    have x28 := hoY _ _ _ (by omega) x27
    have hM8 := hM7.set8 st7.x5 HY.out
    obtain ⟨g0, g1, g2, g3, g4, g5, g6, g7'⟩ := st7.x5.f8
    obtain ⟨d0, d1, d2, d3, d4, d5, d6, d7⟩ := st7.x5.w
    have gg := h.next st8.bel
    obtain ⟨la, hla, hlb, a0, a1, a2, a3, a4, a5, a6, a7⟩ := gg.rows.bs8 hpR
    have HRW : Hid (R[p] = Dg.row R p) := Lib.hid (row_at hpR).symm
    obtain ⟨rv, hrv⟩ : ∃ r, R[p] = r := ⟨_, rfl⟩
    rw [hrv] at a0 a1 a2 a3 a4 a5 a6 a7 HRW
    obtain ⟨c0, c1, c2⟩ := gg.box.c3
    have c3 := x28.c1
    subst hla
    have hY := HY.out
    have hsY6 : w6.heap.size ≤ Y.heap.size := by rw [hsY]; exact hb7.size
    clear st6 h26 hM6 st7 x27 hM7 hrv
    go_wp2_with fail
    refine wp_region_drw_tail 7 (by kernel_rfl) (by kernel_rfl) ?_
    simp only [List.take_succ_cons, List.take_zero, List.drop_succ_cons, List.drop_zero]
    iterate 7 (go_big_quiet_step (fail))
    refine wpQuiet_nil ?_
    rintro w8 ⟨⟨q⟩, rfl⟩
    dsimp only [Drw.val]
    have hbq : Below Y.heap.size Y (Y.drewN q) := below_drewN (Below.refl _ _) q
    have st9 := st8.next hbq
    have hM9 := hM8.below hbq
    have hsq : (Y.drewN q).heap.size = Y.heap.size := rfl
    have HSQ := Lib.hid hsq
    clear gg c0 c1 c2 c3 a0 a1 a2 a3 a4 a5 a6 a7 g0 g1 g2 g3 g4 g5 g6 g7' d0 d1 d2 d3 d4 d5 d6 d7 hY st8 x28 hM8 hsq hbq
    generalize Y.drewN q = X at *
    go_wp2_with fail
    refine (bsAll_ok rv X).mono ?_
    rintro e w9 ⟨rfl, hb9, hs9, xb9⟩
    have st10 := st9.next hb9
    have hM10 := (hM9.below hb9).more (C' := X.heap.size) (by have := HSQ.out; have := hg6.size; omega)
    have hX6 : w6.heap.size ≤ X.heap.size := by have := HSQ.out; omega
    have hfr : Bs.Fit rv := fun i hi => by rw [HRW.out]; cases hc : (Dg.row R p).testBit i with | false => rfl | true => have := HF.out p i hc; omega
    have HFR := Lib.hid hfr
    clear st9 hM9 hfr
    go_wp2_with fail
    have hX9 : X.heap.size ≤ w9.heap.size := hb9.size
    have hlX : base ≤ X.heap.size := by have := hg6.size; omega
    refine wp_range (gf := 65) (lb := #[.pointer (some ⟨X.heap.size, 0, none⟩)]) rfl (enters_of Tryd.func65 (by kernel_rfl) rfl) (bsAll_seq X.heap.size rv) (fun _ => rfl)
      (fun pre W1 => DgS w W1 b5 g7 b7 base R.length (Bs.dif S (2 ^ p)) (lowd (deg R S) pre) v6 (o ++ [p]) ∧ Box W1 X.heap.size (bsc rv) 63 ∧ Marks w.heap.size X.heap.size _ W1) (fun _ _ _ => False)
      ?hI2 (fun _ _ _ _ _ h => h.elim) ?hK2 ⟨st10, xb9, hM10⟩ ?round2 ?done2 (fun _ _ _ h => h.elim)
    case hI2 => exact fun pre W1 W2 row ⟨h1, h2, h3⟩ hg hr => ⟨h1.own (by omega) hg hr, h2.own hg hr, h3.own hX9 hg hr⟩
    case hK2 => exact fun pre W1 ⟨h1, h2, h3⟩ => ⟨h2, ht.kept h1.bel⟩
    case round2 =>
      intro r' pre x post W1 hL hl' hd' hi
      gi_wp2
      refine ⟨hl', hd', hi, fun _ => True, fun _ _ _ _ _ _ _ => trivial, trivial, ?_⟩
      clear hl' hd' hi
      rintro r'' W2 hl2 hd2 ⟨h1, h2, h3⟩ -
      have hxT : rv.testBit x = true := (Bs.mem_els HFR.out).1 (by rw [hL]; simp)
      have hxR : x < R.length := HF.out p x (by rw [← HRW.out]; exact hxT)
      have hxn : x ∉ pre := by
        have := Bs.els_nd rv
        rw [hL, List.nodup_append] at this
        exact fun hm => this.2.2 x hm x (by simp) rfl
      have hge : 1 ≤ deg R S x := by
        have := deg_hit (R := R) (b := p) (v := x) (by omega) hp (HSY.out p x (by rw [← HRW.out]; exact hxT))
        omega
      have hlo : lowd (deg R S) pre x = deg R S x := by unfold lowd; rw [if_neg hxn]
      have HLN := Lib.hid (lowd_next (deg R S) hxn)
      have hdx := deg_le R S x
      have c0 := h1.x7.c1
      obtain ⟨c1, f1⟩ := num_at h1.o7 hxR
      rw [hlo] at c1
      have m1 := h1.set7 hb hxR (deg R S x - 1)
      rw [HLN.out] at m1
      have hcast : ((deg R S x - 1 : Nat) : Int) = (deg R S x : Int) - 1 := by omega
      rw [hcast] at m1
      have m2 := h2.set_other (p := ⟨g7, x, none⟩) (by dsimp only; omega) (.int .i64 ((deg R S x : Int) - 1))
      have m3 := h3.set_own (i := x) h1.o7 (.int .i64 ((deg R S x : Int) - 1))
      have ml := hl2.set_other (p := ⟨g7, x, none⟩) (hl2.ne_own0 rfl h1.o7) (.int .i64 ((deg R S x : Int) - 1))
      have md := hd2.set_other (p := ⟨g7, x, none⟩) (hd2.ne_own0 rfl h1.o7) (.int .i64 ((deg R S x : Int) - 1))
      clear hL hxT hxn hlo hcast h1 h2 h3 hl2 hd2
      generalize deg R S x = dx at *
      have x2 : (0 : Int) ≤ (x : Int) := by omega
      have x3 : (x : Int) < (R.length : Int) := by omega
      gi_wp2_with fail
      change _ ∧ _ ∧ _
      exact ⟨ml, md, m1, m2, m3⟩
    case done2 =>
      rintro W1 ⟨h1, h2, h3⟩ hD2
      rw [HRW.out, HLW.out] at h1
      have hl9 := hD2.lt
      have hMf := h3.cons (D := w9.heap.size) (by have := h1.bel; omega) hX9 hD2
      have hF1 : base ≤ W1.heap.size := by omega
      have hF2 := hMf.more (C' := W1.heap.size) (by omega)
      go_wp2_with fail
      exact HQ.out _ _ _ _ _ _ _ _ _ _ _ _ _ _ _ _ _ _ _ _ _ _ _ _ _ _ _ _ _ _ _ _ _ _ _ _ _ _ _ _ _ _ _ _ _ _ _ _ _ _ _ _ h1 hF1 (by rw [hs4] at hF2; exact hF2)
end Go.Proofs.YtjoomgojnpcbeaaDoor
end

section
namespace Go.Proofs.YtjoomgojnpcbeaaDoor
open Go Go.RowKit Gh
set_option maxRecDepth 100000
namespace Gh
def degTo (R : List Nat) (k : Nat) : Nat → Nat := fun j => if j < k then Bs.cnt (Dg.row R j) else 0
theorem degTo_next (R : List Nat) (k : Nat) : upd (degTo R k) k (Bs.cnt (Dg.row R k)) = degTo R (k + 1) := by
  funext j
  unfold upd degTo
  by_cases e : j = k
  · subst e; rw [if_pos rfl, if_pos (by omega)]
  · rw [if_neg e]
    by_cases h : j < k
    · rw [if_pos h, if_pos (by omega)]
    · rw [if_neg h, if_neg (by omega)]
theorem degTo_all {R : List Nat} (hf : ∀ v x, (Dg.row R v).testBit x = true → x < R.length) : nfl R.length (degTo R R.length) = nfl R.length (deg R (2 ^ R.length - 1)) := by
  refine nfl_congr fun j hj => ?_
  unfold degTo deg
  rw [if_pos hj]
  congr 1
  refine Bs.ext_bit fun q => ?_
  rw [Nat.testBit_and, Nat.testBit_two_pow_sub_one]
  cases hc : (Dg.row R j).testBit q with
  | false => rfl
  | true => rw [decide_eq_true (hf j q hc)]; rfl
end Gh
set_option maxHeartbeats 32000000 in
theorem ghDegeneracy_ok (P : Option Addr) (R : List Nat) (w : World) (h : GV w (.pointer P) R) (hl : R.length ≤ 512) (hfit : ∀ v x, (Dg.row R v).testBit x = true → x < R.length) (hsy : ∀ a c, (Dg.row R a).testBit c = true → (Dg.row R c).testBit a = true) (ht : Tab64 w) :
    Calls Tryd.prog 20 #[.pointer P] w fun e w' => ∃ A c, e = .returned (.tuple #[.slice A R.length c, .int .i64 ((rmv R R.length).2.2 : Nat)]) ∧ Sl 1 icell w' w'.heap.size A (bsl (rmv R R.length).1) ∧ Below w.heap.size w w' := by
  obtain ⟨i0, hi0, hz0, hz1, hz2⟩ := info_parts intInfoD
  have Hi := Lib.hid hi0; have Hz0 := Lib.hid hz0; have Hz1 := Lib.hid hz1; have Hz2 := Lib.hid hz2
  clear hi0 hz0 hz1 hz2
  have HF := Lib.hid hfit
  have HSY := Lib.hid hsy
  clear hfit hsy
  have kL := gvLen_ok (.pointer P) R w h
  have kB := bsBelow_ok R.length w hl
  refine calls_marks Tryd.func20 rfl ?_
  simp only [Tryd.ntmps20, List.size_toArray, List.length_cons, List.length_nil, Nat.reduceAdd, Nat.reduceSub, Array.replicate_succ, Array.replicate_zero, List.push_toArray, List.append_toArray, List.nil_append, List.cons_append]
  go_wp2_with fail
  refine kL.mono ?_
  rintro e w1 ⟨rfl, rfl⟩
  go_wp2_with fail
  refine kB.mono ?_
  rintro e w1 ⟨rfl, hb1⟩
  obtain ⟨U, HU, x5, hbU, hsU⟩ := boxes1 w1 (bsc (2 ^ R.length - 1)) 63
  have hU := HU.out
  have HSU := Lib.hid hsU
  have hs1 := hb1.size
  clear hsU kL kB
  go_wp2_with (at_make; go_loud (
    refine wpList_make_full _ rfl _ _ 31 rfl w.heap.size 3 i0 _ 1 Tryd.underlying31 Hi.out Hz0.out Hz1.out .i64 .i64 _ _ R.length rfl rfl rfl rfl (by rw [Hz2.out]; omega) (by unfold maxLen; omega) (by have := HSU.out; omega) ?_
    intro w3 hown3 hg3
    obtain ⟨X, HX, x7, hbX, hsX⟩ := boxes1 w3 #[.slice (some ⟨U.heap.size, 0, none⟩) R.length R.length] 31
    have HSX := Lib.hid hsX
    have hX := HX.out
    clear hsX))
  clear hU hX
  have em := made_flat (cell := icell) (size := 1) (x0 := (0 : Int)) (by decide) (Value.int .i64 0).cells rfl R.length
  have em2 : flat 1 icell (List.replicate R.length (0 : Int)) = flat 1 icell (nfl R.length (degTo R 0)) := by
    congr 1
    unfold nfl Dg.fl degTo
    simp only [Nat.not_lt_zero, if_false]
    rw [List.map_const', List.length_range]
    rfl
  rw [em, em2] at hown3
  clear em em2
  have hgb3 : Below U.heap.size U w3 := (Below.refl _ _).grown hg3 (Nat.le_refl _) (by simp)
  have hz1' := (own_lt hown3).2
  have hz2' := HSU.out
  have hz3' := HSX.out
  have hb : w1.heap.size < U.heap.size ∧ U.heap.size < w3.heap.size ∧ w3.heap.size < X.heap.size ∧ w.heap.size ≤ w1.heap.size := ⟨by omega, hz1', by omega, hs1⟩
  have st : DgS w X w1.heap.size U.heap.size w3.heap.size X.heap.size R.length (2 ^ R.length - 1) (degTo R 0) (.slice none 0 0) [] :=
    ⟨(hb1.trans (hbU.mono hs1)).trans ((after_ hgb3 hbX).mono (by omega)), x5.below (after_ hgb3 hbX), x7, own_below hown3 hbX, own_nil _ _ _ 1 icell⟩
  have hXX : X.heap.size ≤ X.heap.size := Nat.le_refl _
  clear x5 x7 hown3 hg3 hgb3 hbU hbX HU HX HSU HSX hb1 hz1' hz2' hz3' hs1
  generalize hg7 : U.heap.size = g7 at *
  generalize hb7 : w3.heap.size = b7 at *
  generalize hb5 : w1.heap.size = b5 at *
  generalize hba : X.heap.size = base at *
  clear hg7 hb7 hb5
  go_loopw [24] (fun i wr => ∃ (k : Nat), k ≤ R.length ∧ i = .int .i64 k ∧ DgS w wr b5 g7 b7 base R.length (2 ^ R.length - 1) (degTo R k) (.slice none 0 0) [] ∧ base ≤ wr.heap.size) (fun i _ => R.length - (intOf i).toNat)
  case atStart => exact ⟨0, Nat.zero_le _, rfl, st, by omega⟩
  case round =>
    clear st
    obtain ⟨k, hk, rfl, st, hbw⟩ := hrel
    by_cases hlt : k < R.length
    · have q0 : decide ((k : Int) < (R.length : Int)) = true := decide_eq_true (by omega)
      obtain ⟨bg, A, c, edges, hPe, hG⟩ := h.some_ (by omega)
      obtain rfl : P = some ⟨bg, 0, none⟩ := by injection hPe
      have gg := hG.next st.bel
      obtain ⟨la, hla, hlb, a0, a1, a2, a3, a4, a5, a6, a7⟩ := gg.rows.bs8 hlt
      have HRW : Hid (R[k] = Dg.row R k) := Lib.hid (row_at hlt).symm
      obtain ⟨rv, hrv⟩ : ∃ r, R[k] = r := ⟨_, rfl⟩
      rw [hrv] at a0 a1 a2 a3 a4 a5 a6 a7 HRW
      obtain ⟨c0, c1, c2⟩ := gg.box.c3
      have c3 := st.x7.c1
      have l7 := st.x7.lt
      have lg := gg.box.lt
      have x0 : (0 : Int) ≤ (k : Int) := by omega
      have x1 : (k : Int) < (R.length : Int) := by omega
      have HDN := Lib.hid (degTo_next R k)
      subst hla
      clear hrv
      go_wp2_with fail
      refine wp_region_kept_tail 10 wr.heap.size wr (by kernel_rfl) (by kernel_rfl) (Below.refl _ _) ?_
      simp only [List.take_succ_cons, List.take_zero, List.drop_succ_cons, List.drop_zero]
      iterate 10 (go_big_quiet_step ((go_at_call 53; exact Kept.calls (Nat.le_refl _) (bsLen_ok rv _))))
      refine wpQuiet_nil ?_
      rintro w6 ⟨⟨_, hb6⟩, rfl⟩
      have st6 := st.next hb6
      obtain ⟨c4, f4⟩ := num_at st6.o7 hlt
      have st7 := st6.set7 hb hlt (Bs.cnt rv)
      rw [HRW.out, HDN.out, ← HRW.out] at st7
      have hbw6 : base ≤ w6.heap.size := Nat.le_trans hbw hb6.size
      clear c0 c1 c2 c3 a0 a1 a2 a3 a4 a5 a6 a7 gg st st6 l7 lg
      generalize Bs.cnt rv = cr at *
      go_wp2_with fail
      go_roundw
      case rel => exact ⟨k + 1, hlt, by go_num, st7, by simpa using hbw6⟩
      case measure => simp [intOf]; omega
    · obtain rfl : k = R.length := by omega
      have q0 : decide ((R.length : Int) < (R.length : Int)) = false := decide_eq_false (by omega)
      have st8 : DgS w wr b5 g7 b7 base R.length (2 ^ R.length - 1) (deg R (2 ^ R.length - 1)) (.slice none 0 0) [] := ⟨st.bel, st.x5, st.x7, by rw [← degTo_all HF.out]; exact st.o7, st.oO⟩
      clear st
      go_wp2_with (at_make; go_loud (
        refine wpList_make_own _ rfl _ _ 31 rfl base 3 i0 _ 1 Tryd.underlying31 Hi.out Hz0.out Hz1.out .i64 .i64 _ R.length rfl rfl rfl (by rw [Hz2.out]; omega) (by unfold maxLen; omega) hbw ?_
        intro w2 hown2 hg2
        have hB2 : Below wr.heap.size wr w2 := (Below.refl _ _).grown hg2 (Nat.le_refl _) (by simp)))
      have st9 := st8.next hB2
      have st10 : DgS w w2 b5 g7 b7 base R.length (rmv R 0).2.1 (deg R (rmv R 0).2.1) (.slice (some ⟨wr.heap.size, 0, none⟩) 0 R.length) (rmv R 0).1 := ⟨st9.bel, st9.x5, st9.x7, st9.o7, hown2⟩
      have hbw2 : base ≤ w2.heap.size := Nat.le_trans hbw hB2.size
      clear st8 st9 hown2 hB2 hg2
      refine wp_loop_mrg [9, 10, 11, 12, 13, 42, 43, 44, 45, 46, 47, 48, 49, 50, 51, 52, 53, 54, 55, 56, 57, 58, 59, 60, 61, 62, 63, 64, 65, 66, 67, 68, 69, 70, 71, 72, 73, 74, 75, 76, 77, 78, 79, 80, 81, 82, 83, 84, 85, 86, 87, 88, 89, 90] (fun mm f ds W0 => ∃ (k : Nat), f 42 = .int .i64 k ∧ f 10 = .int .i64 ((rmv R k).2.2 : Nat) ∧ R.length - k = mm ∧ k ≤ R.length ∧ DgS w W0 b5 g7 b7 base R.length (rmv R k).2.1 (deg R (rmv R k).2.1) (f 9) (rmv R k).1 ∧ base ≤ W0.heap.size ∧ Marks w.heap.size W0.heap.size ds W0) R.length ⟨0, rfl, rfl, rfl, Nat.zero_le _, st10, hbw2, Marks.none_⟩ ?_
      clear st10 hbw2
      intro c2' T2' hc2 hT2
      rintro mm f ds W0 ⟨k, hf42, hf10, rfl, hk, st, hbw0, hM⟩
      replace hc2 := hc2.out
      subst hc2
      replace hT2 := hT2.out
      subst hT2
      generalize hFF : mrgF _ 0 _ _ = FF
      simp only [mrg_hit, mrg_miss, mrg_end, Nat.reduceBEq, Nat.reduceAdd] at hFF
      rw [hf42, hf10] at hFF
      subst hFF
      clear hf42 hf10
      generalize f 9 = vO at *
      have rmi := rmv_ok hl k hk
      by_cases hlt : k < R.length
      · have q0 : decide ((k : Int) < (R.length : Int)) = true := decide_eq_true (by omega)
        obtain ⟨bg, A, c, edges, hPe, hG⟩ := h.some_ (by omega)
        obtain rfl : P = some ⟨bg, 0, none⟩ := by injection hPe
        have hne := rmv_ne hlt rmi
        have HR1 : Hid (rmv R (k + 1) = ((rmv R k).1 ++ [pick R (rmv R k).2.1], Bs.dif (rmv R k).2.1 (2 ^ pick R (rmv R k).2.1), max (rmv R k).2.2 (deg R (rmv R k).2.1 (pick R (rmv R k).2.1)))) := Lib.hid rfl
        refine wp_seq_k ?_
        intro Ka hKa
        have HKa := Lib.hid hKa
        clear hKa
        go_wp2_with fail
        refine HKa.out _ _ ?_
        clear HKa
        refine wp_seq_k ?_
        intro Kb hKb
        have HKb := Lib.hid hKb
        clear hKb
        go_wp2_with fail
        refine HKb.out _ _ ?_
        clear HKb
        refine wp_seq_k ?_
        intro Kc hKc
        refine deg_round w W0 bg A c R edges b5 g7 b7 base (rmv R k).2.1 (rmv R k).2.2 vO (rmv R k).1 ht hG hl HF.out HSY.out hb hbw0 st rmi.fit hne rmi.lt (by rw [rmi.len]; omega) hM rfl ?_
        intro y11 y12 y13 y44 y45 y46 y47 y48 y49 y50 y51 y52 y53 y54 y55 y56 y57 y58 y59 y60 y61 y62 y63 y64 y65 y66 y67 y68 y69 y70 y71 y72 y73 y74 y75 y76 y77 y78 y79 y80 y81 y82 y83 y84 y85 y86 y87 y88 y89 vO' ds' W' st' hbw' hM'
        dsimp only
        refine hKc _ _ ?_
        clear hKc
        have hmx : (max ((rmv R k).2.2 : Int) (deg R (rmv R k).2.1 (pick R (rmv R k).2.1) : Int)) = ((rmv R (k + 1)).2.2 : Nat) := by rw [HR1.out]; dsimp only; omega
        rw [hmx]
        rw [show Bs.dif (rmv R k).2.1 (2 ^ pick R (rmv R k).2.1) = (rmv R (k + 1)).2.1 from rfl, show (rmv R k).1 ++ [pick R (rmv R k).2.1] = (rmv R (k + 1)).1 from rfl] at st'
        clear hmx HR1 hne rmi st
        go_wp2_with fail
        exact ⟨_, rfl, rfl, R.length - (k + 1), by omega, k + 1, rfl, rfl, rfl, hlt, st', hbw', hM'⟩
      · obtain rfl : k = R.length := by omega
        have q0 : decide ((R.length : Int) < (R.length : Int)) = false := decide_eq_false (by omega)
        have hO := st.oO
        rw [← bsl_len] at hO
        obtain ⟨A9, c9, rfl, hS9⟩ := own_slice (by decide) hO
        have hll := rmi.len
        go_wp2_with fail
        refine leaves_marks (B := w.heap.size) _ _ hM (fun W' hs => ?_)
        refine ⟨_, results_tmp2 rfl _ _ _, A9, c9, ?_, hs.sl hS9, st.bel.trans hs.below⟩
        show Ending.returned (.tuple #[.slice A9 (bsl (rmv R R.length).1).length c9, .int .i64 ((rmv R R.length).2.2 : Nat)]) = _
        rw [bsl_len, hll]
end Go.Proofs.YtjoomgojnpcbeaaDoor
end

section
namespace Go.Proofs.YtjoomgojnpcbeaaDoor
open Go Go.RowKit Gh
set_option maxRecDepth 100000
namespace Gh
theorem rmv_mem {R : List Nat} (hl : R.length ≤ 512) : ∀ k, k ≤ R.length → ∀ x ∈ (rmv R k).1, x < R.length
  | 0, _, x, hx => absurd hx (by simp [rmv])
  | k + 1, hk, x, hx => by
    have hx : x ∈ (rmv R k).1 ++ [pick R (rmv R k).2.1] := hx
    rcases List.mem_append.1 hx with hx | hx
    · exact rmv_mem hl k (by omega) x hx
    · rw [List.mem_singleton.1 hx]
      have ih := rmv_ok hl k (by omega)
      have hne := rmv_ne hk ih
      exact ih.lt _ (pickF_bit (R := R) (l := Bs.els (rmv R k).2.1 0) (fun x hx => (Bs.mem_els ih.fit).1 hx) (fst_ok ih.fit hne).2)
def choF (R : List Nat) (acc : Nat) (p : Nat × Nat) : Nat := if Dg.sub acc (Dg.row R p.2) = true then acc ||| 2 ^ p.2 else acc
def clq (R : List Nat) : Nat := (bwd (rmv R R.length).1 (rmv R R.length).1.length).foldl (choF R) 0
theorem cho_fit {R : List Nat} : ∀ (l : List (Nat × Nat)) (a : Nat), (∀ p ∈ l, p.2 < 512) → Bs.Fit a → Bs.Fit (l.foldl (choF R) a)
  | [], _, _, h => h
  | p :: l, a, hl, h => by
    rw [List.foldl_cons]
    refine cho_fit l _ (fun q hq => hl q (by simp [hq])) ?_
    unfold choF
    split
    · exact Bs.fit_or h (Bs.fit_one (hl p (by simp)))
    · exact h
theorem bwd_lt {o : List Nat} {n : Nat} (h : ∀ x ∈ o, x < n) {p : Nat × Nat} (hp : p ∈ bwd o o.length) : p.2 < n := by
  unfold bwd at hp
  obtain ⟨i, hi, rfl⟩ := List.mem_map.1 hp
  rw [List.mem_reverse, List.mem_range] at hi
  dsimp only
  rw [List.getD_eq_getElem?_getD, List.getElem?_eq_getElem hi]
  exact h _ (List.getElem_mem hi)
end Gh
set_option maxHeartbeats 32000000 in
theorem ghClique_ok (P : Option Addr) (R : List Nat) (w : World) (h : GV w (.pointer P) R) (hl : R.length ≤ 512) (hfit : ∀ v x, (Dg.row R v).testBit x = true → x < R.length) (hsy : ∀ a c, (Dg.row R a).testBit c = true → (Dg.row R c).testBit a = true) (ht : Tab64 w) :
    Calls Tryd.prog 22 #[.pointer P] w (RetS 1 icell w (bsl (Bs.els (clq R) 0))) := by
  obtain ⟨V, HW, x1, hB, -⟩ := boxes1 w #[.pointer P] 24
  have kD := ghDegeneracy_ok P R V (h.next hB) hl hfit hsy (ht.kept hB)
  have hol := (rmv_ok hl R.length (Nat.le_refl _)).len
  have hom := rmv_mem hl R.length (Nat.le_refl _)
  have HCL : Hid (clq R = (bwd (rmv R R.length).1 (rmv R R.length).1.length).foldl (choF R) 0) := Lib.hid rfl
  generalize (rmv R R.length).1 = o at *
  have HBL := Lib.hid (fun (p : Nat × Nat) (hp : p ∈ bwd o o.length) => bwd_lt hom hp)
  have HOL := Lib.hid hol
  clear hfit hsy hom hol
  generalize clq R = cq at *
  have c1 := x1.c1
  have hV := HW.out
  refine calls_marks Tryd.func22 rfl ?_
  simp only [Tryd.ntmps22, List.size_toArray, List.length_cons, List.length_nil, Nat.reduceAdd, Nat.reduceSub, Array.replicate_succ, Array.replicate_zero, List.push_toArray, List.append_toArray, List.nil_append, List.cons_append]
  go_wp2_with fail
  clear hV
  refine kD.mono ?_
  rintro e w1 ⟨A, c, rfl, hS1, hb1⟩
  have B1 := after_ hB hb1
  have y1 := x1.below hb1
  obtain ⟨X, HX, x5, hbX, hsX⟩ := boxes1 w1 (bsc 0) 63
  have HSX := Lib.hid hsX
  have hX := HX.out
  rw [zero8] at hX
  clear hsX kD c1
  go_wp2_with fail
  clear hX
  refine (backward_ok A R.length c X).mono ?_
  rintro e w4 ⟨rfl, hb4, hs4, xb⟩
  rw [show R.length = o.length from HOL.out.symm] at xb
  have z5 := x5.below hb4
  have b14 : Below w1.heap.size w1 w4 := after_ hbX hb4
  have hlX : w1.heap.size < X.heap.size := x5.lt
  have l1 := y1.lt
  go_wp2_with fail
  refine wp_range (gf := 72) (lb := #[.pointer (some ⟨X.heap.size, 0, none⟩)]) rfl (enters_of Tryd.func72 (by kernel_rfl) rfl) (backward_seq X.heap.size A c o (by have := HOL.out; omega)) (fun _ => rfl)
    (fun pre W1 => Below w1.heap.size w1 W1 ∧ Box W1 w1.heap.size (bsc (pre.foldl (choF R) 0)) 63 ∧ Box W1 X.heap.size #[.slice A o.length c] 31) (fun _ _ _ => False)
    ?hI (fun _ _ _ _ _ h => h.elim) ?hK ⟨b14, z5, xb⟩ ?round ?done (fun _ _ _ h => h.elim)
  case hI => exact fun pre W1 W2 row ⟨h1, h2, h3⟩ hg hr => ⟨below_own h1 b14.size h1.size hg hr, h2.own hg hr, h3.own hg hr⟩
  case hK => exact fun pre W1 ⟨h1, h2, h3⟩ => ⟨h3, (hS1.below h1).more h1.size⟩
  case round =>
    intro r' pre x post W1 hL hl' hd' hi
    gi_wp2
    refine ⟨hl', hd', hi, fun _ => True, fun _ _ _ _ _ _ _ => trivial, trivial, ?_⟩
    clear hl' hd' hi
    rintro r'' W2 hl2 hd2 ⟨h1, h2, h3⟩ -
    have hxR : x.2 < R.length := by have := HBL.out x (by rw [hL]; simp); exact this
    have hfa : Bs.Fit (pre.foldl (choF R) 0) := cho_fit pre 0 (fun p hp => by have := HBL.out p (by rw [hL]; simp [hp]); omega) Bs.Fit.zero
    have HP : Hid ((pre ++ [x]).foldl (choF R) 0 = choF R (pre.foldl (choF R) 0) x) := Lib.hid (by rw [List.foldl_append]; rfl)
    clear hL
    generalize pre.foldl (choF R) 0 = acc at *
    generalize (pre ++ [x]).foldl (choF R) 0 = acc' at *
    obtain ⟨bg, A2, c2, edges, hPe, hG⟩ := h.some_ (by omega)
    obtain rfl : P = some ⟨bg, 0, none⟩ := by injection hPe
    have gg := hG.next (B1.trans (h1.mono B1.size))
    obtain ⟨x, v⟩ := x
    dsimp only at hxR HP
    obtain ⟨la, hla, hlb, a0, a1, a2, a3, a4, a5, a6, a7⟩ := gg.rows.bs8 hxR
    have HRW : Hid (R[v] = Dg.row R v) := Lib.hid (row_at hxR).symm
    obtain ⟨rv, hrv⟩ : ∃ r, R[v] = r := ⟨_, rfl⟩
    rw [hrv] at a0 a1 a2 a3 a4 a5 a6 a7 HRW
    obtain ⟨c0, c1, c2'⟩ := gg.box.c3
    have z1 := y1.belowB h1 l1
    have b0 := z1.c1
    obtain ⟨d0, d1, d2, d3, d4, d5, d6, d7⟩ := h2.w
    have x0 : (0 : Int) ≤ (v : Int) := by omega
    have x1' : (v : Int) < (R.length : Int) := by omega
    have l2 := z1.lt
    have l6 := h2.lt
    have lg := gg.box.lt
    subst hla
    clear hrv
    gi_wp2_with fail
    refine wpIn_region_keptN W2.heap.size W2 (by kernel_rfl) (by kernel_rfl) (by kernel_rfl) (Below.refl _ _) ?_
    iterate 9 (go_big_quiet_step ((go_at_call 58; exact Kept.calls (Nat.le_refl _) (bsSub_ok acc rv hfa _))))
    refine wpQuiet_nil ?_
    rintro w6 ⟨⟨_, hb6⟩, rfl⟩
    clear b0 d0 d1 d2 d3 d4 d5 d6 d7 a0 a1 a2 a3 a4 a5 a6 a7 c0 c1 c2' gg l2 l6 lg z1
    have k1 := after_ h1 hb6
    have k2 := h2.below hb6
    have k3 := h3.below hb6
    have kl := hl2.below hb6
    have kd := hd2.below hb6
    clear h1 h2 h3 hl2 hd2
    cases hsb : Dg.sub acc rv with
    | false =>
      have hacc : acc' = acc := by rw [HP.out]; unfold choF; rw [if_neg (by dsimp only; rw [← HRW.out, hsb]; decide)]
      gi_wp2_with fail
      change _ ∧ _ ∧ _
      exact ⟨kl, kd, k1, by rw [hacc]; exact k2, k3⟩
    | true =>
      have hacc : acc ||| 2 ^ v = acc' := by rw [HP.out]; unfold choF; rw [if_pos (by dsimp only; rw [← HRW.out, hsb])]
      have HAC := Lib.hid hacc
      clear hacc
      obtain ⟨d0, d1, d2, d3, d4, d5, d6, d7⟩ := k2.w
      gi_wp2_with fail
      refine ⟨trivial, ?_⟩
      refine (callsIn_wide.2 (bsAdd_ok acc v w6 (by omega))).mono ?_
      rintro e w7 ⟨rfl, hb7⟩
      clear d0 d1 d2 d3 d4 d5 d6 d7
      have m1 := after_ k1 hb7
      have m2 := k2.below hb7
      have m3 := k3.below hb7
      have ml := kl.below hb7
      have md := kd.below hb7
      obtain ⟨g0, g1, g2, g3, g4, g5, g6, g7⟩ := m2.f8
      obtain ⟨d0, d1, d2, d3, d4, d5, d6, d7⟩ := m2.w
      obtain ⟨Y, HY, z, hBY, hsY, hoY⟩ := store8 w7 w1.heap.size (acc ||| 2 ^ v) _ _ m2 rfl
      have hY := HY.out
      rw [HAC.out] at z
      gi_wp2_with fail
      change _ ∧ _ ∧ _
      exact ⟨ml.set8 rfl m2 HY.out, md.set8 rfl m2 HY.out, hBY _ _ (Nat.le_refl _) m1, z, hoY _ _ _ (by omega) m3⟩
  case done =>
    rintro W1 ⟨h1, h2, h3⟩ hD
    rw [← HCL.out] at h2
    have bw1 := B1.trans (h1.mono B1.size)
    obtain ⟨d0, d1, d2, d3, d4, d5, d6, d7⟩ := h2.w
    have hM := Marks.none_ (B := w.heap.size) (C := w.heap.size) (W := W1)
    have hMf := hM.cons (D := w4.heap.size) (by have := B1.size; have := b14.size; omega) (by have := B1.size; have := b14.size; omega) hD
    go_wp2_with fail
    clear d0 d1 d2 d3 d4 d5 d6 d7
    refine (bsList_own cq W1 (ht.kept bw1)).mono ?_
    rintro e w8 ⟨AL, cL, rfl, hownL, hb8⟩
    have hMg := hMf.below hb8
    rw [hs4] at hMg
    go_wp2_with fail
    refine leaves_marks (B := w.heap.size) _ _ hMg (fun W' hs => ⟨_, results_tmp rfl _ _ _, ?_⟩)
    exact ⟨AL, cL, rfl, hs.sl (Sl.of_own (by decide) hownL), (bw1.trans (hb8.mono bw1.size)).trans hs.below⟩
end Go.Proofs.YtjoomgojnpcbeaaDoor
end

section
namespace Go.Proofs.YtjoomgojnpcbeaaDoor
namespace Ge
open Bs Dg Gh
def chB (R : List Nat) (acc v : Nat) : Nat := if Dg.sub acc (row R v) = true then acc ||| 2 ^ v else acc
theorem bwd_snd (o : List Nat) : (bwd o o.length).map Prod.snd = o.reverse := by
  unfold bwd
  rw [List.map_map, List.map_reverse]
  congr 1
  refine List.ext_getElem (by simp) fun i h1 h2 => ?_
  rw [List.getElem_map, List.getElem_range]
  simp only [Function.comp]
  rw [List.getD_eq_getElem?_getD, List.getElem?_eq_getElem h2]
  rfl
theorem clq_eq (R : List Nat) : clq R = (rmv R R.length).1.reverse.foldl (chB R) 0 := by
  unfold clq
  rw [← bwd_snd, List.foldl_map]
  rfl
section
variable {n : Nat} {E : List Ed} {R : List Nat}
theorem ER.cho (h : ER n E R) : ∀ (l : List Nat) (acc : Nat) (ch : List Nat), (∀ x, acc.testBit x = true ↔ x ∈ ch) → ∀ x, (l.foldl (chB R) acc).testBit x = true ↔ x ∈ l.foldl (choR E) ch
  | [], _, _, hb => hb
  | v :: l, acc, ch, hb => by
    rw [List.foldl_cons, List.foldl_cons]
    refine h.cho l _ _ ?_
    intro x
    have e : Dg.sub acc (row R v) = true ↔ (nbr E v ch).length = ch.length := by
      rw [sub_iff]
      unfold nbr
      rw [List.length_filter_eq_length_iff]
      exact ⟨fun h1 a ha => by rw [← h.bit]; exact h1 a ((hb a).2 ha), fun h1 a ha => by rw [h.bit]; exact h1 a ((hb a).1 ha)⟩
    unfold chB choR
    by_cases hs : Dg.sub acc (row R v) = true
    · rw [if_pos hs, if_pos (e.1 hs), Nat.testBit_or, pow_bit, Bool.or_eq_true, decide_eq_true_eq, hb, List.mem_append, List.mem_singleton]
      exact or_congr Iff.rfl eq_comm
    · rw [if_neg hs, if_neg (fun h1 => hs (e.2 h1))]
      exact hb x
theorem choR_mem : ∀ (l ch : List Nat) (x : Nat), x ∈ l.foldl (choR E) ch → x ∈ ch ∨ x ∈ l
  | [], _, _, h => .inl h
  | v :: l, ch, x, h => by
    rw [List.foldl_cons] at h
    rcases choR_mem l _ x h with h | h
    · unfold choR at h
      split at h
      · rcases List.mem_append.1 h with h | h
        · exact .inl h
        · exact .inr (by simp [List.mem_singleton.1 h])
      · exact .inl h
    · exact .inr (by simp [h])
theorem ER.cliq (h : ER n E R) : cliq E n = els (clq R) 0 := by
  have e : (Ge.rem E n n).1 = (rmv R R.length).1 := by rw [h.rem n (Nat.le_refl _), h.len]
  have hl : R.length ≤ 512 := by rw [h.len]; exact h.le
  have hm := h.cho (rmv R R.length).1.reverse 0 [] (fun x => by simp)
  have hlt : ∀ x, (clq R).testBit x = true → x < n := fun x hx => by
    rw [clq_eq, hm] at hx
    rcases choR_mem _ _ _ hx with h1 | h1
    · cases h1
    · have := rmv_mem hl R.length (Nat.le_refl _) x (List.mem_reverse.1 h1)
      rwa [h.len] at this
  rw [els_n h.le hlt]
  unfold Ge.cliq pickIn Ge.cho
  rw [e]
  refine List.filter_congr fun x _ => ?_
  rw [Bool.eq_iff_iff, decide_eq_true_eq, clq_eq, hm]
end
end Ge
end Go.Proofs.YtjoomgojnpcbeaaDoor
end

section
namespace Go.Proofs.YtjoomgojnpcbeaaDoor
open Go Go.RowKit Gh
set_option maxRecDepth 100000
theorem own_one {w : World} {b : Nat} {x : Int} (h : Box w b #[.int .i64 x] 3) {base : Nat} (hb : base ≤ b) : w.ownsRow base 3 1 (.slice (some ⟨b, 0, none⟩) 1 1) 1 (flat 1 icell [x]) :=
  ⟨rfl, .inr ⟨b, 1, _, rfl, hb, h, Nat.le_refl _, by unfold maxLen; omega, rfl, rfl⟩⟩
namespace Gh
theorem popd_of {st pre rest r2 : List Nat} {v x : Nat} (hn : st.Nodup) (e : st = pre ++ v :: (rest ++ x :: r2)) : x ∈ st ∧ st.drop (st.idxOf x) = x :: r2 ∧ (v :: x :: r2).Nodup ∧ st.idxOf x ≤ st.length := by
  subst e
  have hm : x ∈ rest ++ x :: r2 := by simp
  have h1 := stack_split hn hm
  have hn2 := (List.nodup_append.1 hn).2.1
  rw [List.nodup_cons] at hn2
  have hn3 := (List.nodup_append.1 hn2.2)
  have hx : x ∉ rest := fun h => hn3.2.2 x h x (by simp) rfl
  have h2 : (rest ++ x :: r2).idxOf x = rest.length := by
    rw [List.idxOf_append, if_neg hx, List.idxOf_cons, show (x == x) = true from beq_self_eq_true x]
    simp
  rw [h2] at h1
  refine ⟨by simp, ?_, ?_, List.idxOf_le_length⟩
  · rw [h1, show pre ++ v :: (rest ++ x :: r2) = (pre ++ v :: rest) ++ x :: r2 by simp, List.drop_left' (by simp; omega)]
  · rw [List.nodup_cons]
    exact ⟨fun h => hn2.1 (by simp only [List.mem_append]; exact .inr h), hn3.2.1⟩
theorem srt_congr {l l' : List Nat} (h : ∀ x, x ∈ l ↔ x ∈ l') : srt l = srt l' := by
  unfold srt
  congr 1
  apply Bs.ext_bit
  intro j
  rw [mask_bit, mask_bit, decide_eq_decide]
  exact h j
end Gh
set_option maxHeartbeats 32000000 in
theorem visit_tail {Q : Exit → Act → World → Prop} {cd : Code} {l : Nat} {Z0 Z1 Zb Zd Ze Zf Zg Zh Zi Zj Zk Zl Zm Zn Zo Zp Zq Zr Zs Zt Zu Zv Zw Zx Zy Zz Z10 Z11 Z12 Z13 Z14 Z15 Z16 Z17 Z18 Z19 Z1a Z1b Z1c Z1d Z1e Z1f Z1g Z1h Z1i Z1j Z1k Z1l Z1m Z1n Z1o Z1p Z1q Z1r Z1s Z1t Z1u Z1v Z1w Z1x Z1y Z1z Z20 Z21 Z22 Z23 Z24 Z25 Z26 Z27 Z28 Z29 Z2a Z2b Z2c Z2d Z2e Z2f Z2g Z2h Z2i Z2j Z2k Z2l Z2m Z2n Z2o Z2p Z2q Z2r Z2s Z2t Z2u Z2v Z2w Z2x Z2y Z2z Z30 Z31 Z32 Z33 Z34 Z35 Z36 Z37 Z38 Z39 Z3a Z3b Z3c Z3d Z3e Z3f Z3g : Value} (w0 W : World) (a : BA) (o : a.Ok) (pv : Value) (n : Nat) (hn : n ≤ 512) (s : Bk) (x v b10 : Nat) (vK vB : Value) (ls : List SLc) (hb10 : a.bV < b10) (hv : v < n) (hx : x < n) (st : BSt w0 W a pv n s vK vB ls) (bi : BI n s) (y10 : Box W b10 #[.int .i64 v] 3) (hstk : ∃ pre rest r2, s.stack = pre ++ v :: (rest ++ x :: r2)) (hcd : (Tryd.f46.body.bind (fromReg 10)) = some cd)
    (hQ : ∀ (e : Exit) (a' : Act) (W' : World), (e = .normal ∨ e = .exit 1) → (∃ vK' vB' ls', BSt w0 W' a pv n (fin v x s) vK' vB' ls' ∧ Fr a W W' vK vB vK' vB') → Q e a' W') :
    cd.wpIn (FR l) 8 Tryd.prog Q ⟨#[Z0, Z1, ptr a.bK, ptr a.bT, ptr a.bE, ptr a.bL, ptr a.b1, ptr a.bV, ptr a.bS, ptr a.bB, .pointer (some ⟨b10, 0, none⟩), Zb, .int .i64 (x : Nat), Zd, Ze, Zf, Zg, Zh, Zi, Zj, Zk, Zl, Zm, Zn, Zo, Zp, Zq, Zr, Zs, Zt, Zu, Zv, Zw, Zx, Zy, Zz, Z10, Z11, Z12, Z13, Z14, Z15, Z16, Z17, Z18, Z19, Z1a, Z1b, Z1c, Z1d, Z1e, Z1f, Z1g, Z1h, Z1i, Z1j, Z1k, Z1l, Z1m, Z1n, Z1o, Z1p, Z1q, Z1r, Z1s, Z1t, Z1u, Z1v, Z1w, Z1x, Z1y, Z1z, Z20, Z21, Z22, Z23, Z24, Z25, Z26, Z27, Z28, Z29, Z2a, Z2b, Z2c, Z2d, Z2e, Z2f, Z2g, Z2h, Z2i, Z2j, Z2k, Z2l, Z2m, Z2n, Z2o, Z2p, Z2q, Z2r, Z2s, Z2t, Z2u, Z2v, Z2w, Z2x, Z2y, Z2z, Z30, Z31, Z32, Z33, Z34, Z35, Z36, Z37, Z38, Z39, Z3a, Z3b, Z3c, Z3d, Z3e, Z3f, Z3g], []⟩ W := by
  obtain ⟨il, hil, hzl0, hzl1, hzl2⟩ := info_parts slInfo
  have Hil := Lib.hid hil; have Hzl0 := Lib.hid hzl0; have Hzl1 := Lib.hid hzl1; have Hzl2 := Lib.hid hzl2
  clear hil hzl0 hzl1 hzl2
  have hlow : ∀ j, s.low j ≤ 512 := fun j => by have := bi.low j; have := bi.ct; omega
  have hent : ∀ j, s.ent j ≤ 512 := fun j => by have := bi.ent j; have := bi.ct; omega
  have hsh : ∀ j, s.sh j ≤ 512 := fun j => by have := bi.sh j; have := bi.cb; have := bi.ct; omega
  have hstl : s.stack.length ≤ 512 := by have := bi.cb; have := bi.ct; omega
  rw [show (Tryd.f46.body.bind (fromReg 10)) = some (Code.seq (Code.region 10 _ _) _) from rfl] at hcd
  obtain rfl := Option.some.inj hcd
  clear hcd
  have HQ := Lib.hid hQ
  clear hQ
  have c0 := st.xL.c1
  have c1 := y10.c1
  obtain ⟨c2, f2⟩ := num_at st.oL hv
  obtain ⟨c3, f3⟩ := num_at st.oL hx
  have x0 : (0 : Int) ≤ (v : Int) := by omega
  have x1 : (v : Int) < (n : Int) := by omega
  have x2 : (0 : Int) ≤ (x : Int) := by omega
  have x3 : (x : Int) < (n : Int) := by omega
  gi_wp2_with fail
  rename_i K0 hK0
  refine wpIn_region_drw_tail 11 (by kernel_rfl) (by kernel_rfl) (by kernel_rfl) ?_
  simp only [List.take_succ_cons, List.take_zero, List.drop_succ_cons, List.drop_zero]
  iterate 11 (go_big_quiet_step (fail))
  refine wpQuiet_nil ?_
  rintro w1 ⟨⟨q⟩, rfl⟩
  dsimp only [Drw.val]
  have hb1 : Below W.heap.size W (W.drewN q) := below_drewN (Below.refl _ _) q
  have st1 := st.next o hb1
  have fr1 : Fr a W (W.drewN q) vK vB vK vB := Fr.of_below hb1
  have y1 := y10.below hb1
  have hnv : v ≠ x := by
    obtain ⟨pre, rest, r2, e⟩ := hstk
    have := bi.nd
    rw [e, List.nodup_append] at this
    have := this.2.1
    rw [List.nodup_cons] at this
    exact fun e2 => this.1 (by rw [e2]; simp)
  clear st y10 c0 c1 c2 c3 f2 f3 hb1
  generalize W.drewN q = X at *
  obtain ⟨c2, f2⟩ := num_at st1.oL hv
  have st2 := st1.setL o hv (min (s.low v) (s.low x))
  have fr2 := fr1.trans (Fr.of_grown (grown_set X a.gL v (.int .i64 (min (s.low v : Int) (s.low x : Int)))) (by simp))
  have y2 := y1.set_other (p := ⟨a.gL, v, none⟩) (by have := o.all; dsimp only; omega) (.int .i64 (min (s.low v : Int) (s.low x : Int)))
  obtain ⟨Y, hY⟩ : ∃ Y, X.setCell ⟨a.gL, v, none⟩ (.int .i64 (min (s.low v : Int) (s.low x : Int))) = Y := ⟨_, rfl⟩
  rw [hY] at fr2 y2
  have st2 : BSt w0 Y a pv n (setlow v (min (s.low v) (s.low x)) s) vK vB ls := by
    rw [← hY]
    have e : (Value.int .i64 (min (s.low v : Int) (s.low x : Int))) = .int .i64 ((min (s.low v) (s.low x) : Nat) : Int) := by congr 1; omega
    rw [e]
    exact st2
  clear st1 fr1 y1
  have d0 := st2.xL.c1
  have d1 := st2.xE.c1
  have d2 := y2.c1
  have d3 := (num_at st2.oE hv).1
  have d4 := (num_at st2.oL hx).1
  dsimp only [setlow] at d3 d4
  have hl2 : BI n (setlow v (min (s.low v) (s.low x)) s) := bi.setlow (by have := bi.low v; omega)
  have HFN : Hid (fin v x s = if upd s.low v (min (s.low v) (s.low x)) x < s.ent v then setlow v (min (s.low v) (s.low x)) s else cut v x (setlow v (min (s.low v) (s.low x)) s)) := Lib.hid rfl
  generalize min (s.low v) (s.low x) = m at *
  generalize upd s.low v m x = lx at *
  go_wp2_with fail
  refine onlyK_of ?_
  refine hK0 _ _ ?_
  clear hK0
  gi_wp2_with fail
  refine wpIn_region_drw (by kernel_rfl) (by kernel_rfl) (by kernel_rfl) ?_
  iterate 9 (go_big_quiet_step (fail))
  refine wpQuiet_nil ?_
  rintro w1 ⟨⟨q2⟩, rfl⟩
  dsimp only [Drw.val]
  have hb3 : Below Y.heap.size Y (Y.drewN q2) := below_drewN (Below.refl _ _) q2
  have st3 := st2.next o hb3
  have fr3 := fr2.trans (Fr.of_below hb3)
  have y3 := y2.below hb3
  clear d0 d1 d2 d3 d4 st2 fr2 y2 hb3 hY
  generalize Y.drewN q2 = U at *
  by_cases hlt : lx < s.ent v
  · have q0 : decide ((lx : Int) < (s.ent v : Int)) = true := decide_eq_true (by omega)
    gi_wp2_with fail
    rw [if_pos hlt] at HFN
    exact HQ.out _ _ _ (.inr rfl) ⟨vK, vB, ls, by rw [HFN.out]; exact st3, fr3⟩
  · have q0 : decide ((lx : Int) < (s.ent v : Int)) = false := decide_eq_false (by omega)
    have c1 := y3.c1
    rw [if_neg hlt] at HFN
    generalize hs1 : setlow v m s = s1 at *
    have hst1 : s1.stack = s.stack := by rw [← hs1]; rfl
    rw [← hst1] at hstk hstl
    have hsh1 : ∀ j, s1.sh j ≤ 512 := by rw [← hs1]; exact hsh
    clear hs1 hst1 hsh hlow hent
    obtain ⟨pre, rest, r2, hse⟩ := hstk
    obtain ⟨hxs, hdr, hnd2, hile⟩ := popd_of hl2.nd hse
    have hmem : ∀ j ∈ v :: x :: r2, j < n := fun j hj => (hl2.mem j (by rw [hse]; simp only [List.mem_append, List.mem_cons] at hj ⊢; rcases hj with h | h | h <;> simp [h])).1
    obtain ⟨gK, cK, rfl, hgK, hgK2⟩ := st3.oK.form (List.length_pos_of_mem hxs)
    obtain ⟨V, HV, yC, hbV, hsV⟩ := boxes1 U #[.int .i64 v] 3
    have HSV := Lib.hid hsV
    clear hsV
    have hV := HV.out
    have st4 := st3.next o hbV
    have ownC := own_one yC (Nat.le_refl _)
    have frV : Fr a U V (.slice (some ⟨gK, 0, none⟩) s1.stack.length cK) vB (.slice (some ⟨gK, 0, none⟩) s1.stack.length cK) vB := Fr.of_below hbV
    have hlsU : ∀ t ∈ ls, ∀ k, (Value.slice t.A t.xs.length t.c).ownBlock = some k → k < U.heap.size := fun t ht k hk => ((st3.lo.inner t ht).lt k hk).2
    have hlU := st3.lt
    gi_wp2_with fail
    rename_i K1 hK1
    refine wpIn_label ?_
    refine hK1 _ _ ?_
    clear hK1 hV c1
    refine wpIn_seq_k ?_
    intro K2 hK2
    refine pop_loop w0 U V a o pv n s1 x v gK cK vB ls _ hxs hl2.nd hlU hgK2 hlsU hstl ⟨by rw [List.take_length]; exact st4, by rw [Nat.sub_self, List.drop_length]; exact ownC, frV, Nat.le_refl _, List.idxOf_lt_length_of_mem hxs⟩ rfl ?_
    intro y14 y87 y88 y89 y90 y91 y92 y93 y94 y95 y96 y97 y98 y99 y100 y101 y102 y103 y104 y105 vC' W1 ⟨st5, own5, fr5⟩
    dsimp only
    refine hK2 _ _ ?_
    clear hK2 st4 ownC frV hbV HV yC
    rw [hdr] at own5
    have hbl : s1.stack.length - s1.stack.idxOf x + 1 = (v :: (x :: r2).reverse).length := by
      have := congrArg List.length hdr
      rw [List.length_drop] at this
      rw [List.length_cons, List.length_reverse]
      omega
    rw [hbl] at own5
    obtain ⟨gC, cC, rfl, hgC, hgC2⟩ := own5.form (by simp)
    have hbm : ∀ j, j ∈ v :: (x :: r2).reverse ↔ j ∈ v :: x :: r2 := fun j => by simp only [List.mem_cons, List.mem_reverse]
    have hbn : (v :: (x :: r2).reverse).Nodup := by
      rw [List.nodup_cons] at hnd2 ⊢
      exact ⟨fun h => hnd2.1 (List.mem_reverse.1 h), (List.reverse_perm _).nodup_iff.2 hnd2.2⟩
    have hsrt : srt (v :: (x :: r2).reverse) = srt (v :: x :: r2) := srt_congr hbm
    have hbln : (v :: (x :: r2).reverse).length ≤ 513 := by rw [← hbl]; omega
    have hcut : cut v x s1 = { s1 with stack := s1.stack.take (s1.stack.idxOf x), sh := shi s1.sh (v :: (x :: r2).reverse) (v :: (x :: r2).reverse).length, blocks := s1.blocks ++ [srt (v :: (x :: r2).reverse)] } := by
      unfold cut popd shi
      rw [hdr, hsrt]
      congr 1
      funext j
      rw [List.take_length]
      simp only [hbm]
    rw [hcut] at HFN
    have hbmem : ∀ j ∈ v :: (x :: r2).reverse, j < n := fun j hj => hmem j ((hbm j).1 hj)
    clear hcut hsrt hbm hdr hnd2 hmem hbl hse
    generalize v :: (x :: r2).reverse = b at *
    generalize s1.stack.idxOf x = k at *
    refine wpIn_seq_k ?_
    intro K3 hK3
    refine share_loop w0 U W1 a o pv n { s1 with stack := s1.stack.take k } gC b.length cC b _ _ vB ls hbn hbmem rfl (by omega) hsh1 hlU st5 own5 fr5 rfl ?_
    intro y16 y106 y107 y108 y109 y110 y111 y112 y113 y114 y115 y116 y117 y118 W2 ⟨st6, own6, fr6⟩
    dsimp only
    refine hK3 _ _ ?_
    clear hK3 st5 own5 fr5
    gi_wp2_with fail
    refine ⟨trivial, ?_⟩
    refine (callsIn_wide.2 (sortI_own own6 (fun y hy => by have := hbmem y hy; omega) hbn (by omega))).mono ?_
    rintro e W3 ⟨rfl, own7, hg7⟩
    have hperm := (srt_perm (fun y hy => by have := hbmem y hy; omega) hbn).length_eq
    have HPM : Hid ((bsl (srt b)).length = b.length) := Lib.hid (by rw [bsl_len, hperm])
    have HCS : Hid ([Value.slice (some ⟨gC, 0, none⟩) b.length cC] = (List.range 1).map (slcell (⟨some ⟨gC, 0, none⟩, cC, bsl (srt b)⟩ : SLc))) := Lib.hid (by show _ = [Value.slice (some ⟨gC, 0, none⟩) (bsl (srt b)).length cC]; rw [HPM.out])
    have hoff7 : ∀ g, some gC = some g → (Value.slice (some ⟨gK, 0, none⟩) k cK).ownBlock ≠ some g ∧ vB.ownBlock ≠ some g ∧ ∀ t ∈ ls, (Value.slice t.A t.xs.length t.c).ownBlock ≠ some g := fun g e => by
      obtain rfl := Option.some.inj e
      refine ⟨fun e2 => ?_, fun e2 => ?_, fun t ht e2 => ?_⟩
      · have e3 : gK = gC := Option.some.inj e2
        omega
      · rcases own_ne own6 st6.lo.outer (by decide) with e4 | e4
        · cases e4
        · exact e4 e2.symm
      · have := hlsU t ht gC e2
        omega
    have st7 := st6.off_g o hg7 (fun g e => by have e2 : gC = g := Option.some.inj e; omega) hoff7
    have fr7 := fr6.fresh hg7 (fun g e => by have e2 : gC = g := Option.some.inj e; omega)
    have hbb : ls.length ≤ 512 := by
      have h1 := congrArg List.length st7.lsx
      rw [List.length_map, List.length_map] at h1
      dsimp only at h1
      have := hl2.cb; have := hl2.ct; omega
    have e9 := st7.xB.c1
    have f9 := st7.xB.frozen 0
    have hlV := st7.lt
    clear own6 st6 fr6 hg7 hperm
    gi_wp2_with (gi_at_builtin; go_loud (
      refine lift_law rfl (fun _ h => by cases h) (fun K hK => ?_)
      refine wpList_push_at (cell := slcell) (y := (⟨some ⟨gC, 0, none⟩, cC, bsl (srt b)⟩ : SLc)) rfl _ _ _ rfl (a.bV + 1) 31 il _ 24 Tryd.underlying28 Hil.out Hzl0.out Hzl1.out Hzl2.out rfl (by decide) _ _ _ rfl st7.lo.outer _ _ HCS.out _ rfl (sl_one _) (by unfold maxLen; omega) (by omega) (by omega) ?_
      intro v' w' hown' hg' hat'
      refine hK _ _ ?_
      obtain ⟨g', cap', rfl⟩ := ownsRow_succ hown'
      replace hg' : W3.grownBy w' vB.ownBlock := hg'
      have lo8 : LO w' (a.bV + 1) (.slice (some ⟨g', 0, none⟩) (ls.length + 1) cap') (ls ++ [(⟨some ⟨gC, 0, none⟩, cC, bsl (srt b)⟩ : SLc)]) := st7.lo.push (by dsimp only; rw [HPM.out]; exact own_base own7 hlU) hown' hg'
      have hlx : (ls ++ [(⟨some ⟨gC, 0, none⟩, cC, bsl (srt b)⟩ : SLc)]).map (·.xs) = (s1.blocks ++ [srt b]).map bsl := by rw [List.map_append, List.map_append, st7.lsx]; rfl
      have hof : ∀ t ∈ ls ++ [(⟨some ⟨gC, 0, none⟩, cC, bsl (srt b)⟩ : SLc)], (Value.slice t.A t.xs.length t.c).ownBlock = none ∨ (Value.slice t.A t.xs.length t.c).ownBlock ≠ (Value.slice (some ⟨gK, 0, none⟩) k cK).ownBlock := fun t ht => by
        rcases List.mem_append.1 ht with ht | ht
        · exact st7.off t ht
        · obtain rfl := List.mem_singleton.1 ht
          refine .inr (fun e2 => ?_)
          have e3 : gC = gK := Option.some.inj e2
          omega
      have st8 := st7.blk o lo8 hlx hof hg'
      have fr8 := fr7.trans ((Fr.of_B (vK := (.slice (some ⟨gK, 0, none⟩) k cK)) hg' (hat'.imp id fun h g e => h g e)).trans (Fr.of_grown (grown_set w' a.bB 0 (.slice (some ⟨g', 0, none⟩) (ls.length + 1) cap')) (by simp)))
      have f10 := st7.xB.grown hg' (fun e => by have := (st7.lo.outer.lt _ e.symm).1; have := o.all; omega)
      have f11 := f10.frozen 0
      have f12 := f10.c1
      clear lo8 hlx hof hown' hat' st7 own7 fr7))
    exact HQ.out _ _ _ (.inl rfl) ⟨_, _, _, by rw [HFN.out]; exact st8, fr3.trans fr8⟩
end Go.Proofs.YtjoomgojnpcbeaaDoor
end

section
namespace Go.Proofs.YtjoomgojnpcbeaaDoor
open Go Go.RowKit Gh
set_option maxRecDepth 100000
set_option maxHeartbeats 32000000 in
theorem visit_round {Q : Exit → Act → World → Prop} {cd : Code} {l : Nat} {Z0 Z1 Zd Ze Zf Zg Zh Zi Zj Zk Zl Zm Zn Zo Zp Zq Zr Zs Zt Zu Zv Zw Zx Zy Zz Z10 Z11 Z12 Z13 Z14 Z15 Z16 Z17 Z18 Z19 Z1a Z1b Z1c Z1d Z1e Z1f Z1g Z1h Z1i Z1j Z1k Z1l Z1m Z1n Z1o Z1p Z1q Z1r Z1s Z1t Z1u Z1v Z1w Z1x Z1y Z1z Z20 Z21 Z22 Z23 Z24 Z25 Z26 Z27 Z28 Z29 Z2a Z2b Z2c Z2d Z2e Z2f Z2g Z2h Z2i Z2j Z2k Z2l Z2m Z2n Z2o Z2p Z2q Z2r Z2s Z2t Z2u Z2v Z2w Z2x Z2y Z2z Z30 Z31 Z32 Z33 Z34 Z35 Z36 Z37 Z38 Z39 Z3a Z3b Z3c Z3d Z3e Z3f Z3g : Value} (w0 W : World) (a : BA) (o : a.Ok) (pv : Value) (n : Nat) (hn : n ≤ 512) (R : List Nat) (f : Nat) (s0 s : Bk) (x v b10 b11 : Nat) (p : Int) (vK vB : Value) (ls : List SLc) (hb10 : a.bV < b10) (h10K : some b10 ≠ vK.ownBlock) (h10B : some b10 ≠ vB.ownBlock) (hv : v < n) (hx : x < n) (st : BSt w0 W a pv n s vK vB ls) (vi : VI n s0 s v) (y10 : Box W b10 #[.int .i64 v] 3) (y11 : Box W b11 #[.int .i64 p] 3)
    (hvi : s.ent x = 0 → VI n s (visit R f x v s) x)
    (ih : s.ent x = 0 → Calls Tryd.prog 46 (#[.int .i64 x, .int .i64 v] ++ caps a) W fun e W' => e = .returned (.tuple #[]) ∧ ∃ vK' vB' ls', BSt w0 W' a pv n (visit R f x v s) vK' vB' ls' ∧ Fr a W W' vK vB vK' vB')
    (hcd : (Tryd.f46.body.bind rangeBody) = some cd)
    (hQ : ∀ (a' : Act) (W' : World), (∃ vK' vB' ls', BSt w0 W' a pv n (stepB (visit R f) v p s x) vK' vB' ls' ∧ Fr a W W' vK vB vK' vB') → Q .normal a' W') :
    cd.wpIn (FR l) 8 Tryd.prog Q ⟨#[Z0, Z1, ptr a.bK, ptr a.bT, ptr a.bE, ptr a.bL, ptr a.b1, ptr a.bV, ptr a.bS, ptr a.bB, .pointer (some ⟨b10, 0, none⟩), .pointer (some ⟨b11, 0, none⟩), .int .i64 (x : Nat), Zd, Ze, Zf, Zg, Zh, Zi, Zj, Zk, Zl, Zm, Zn, Zo, Zp, Zq, Zr, Zs, Zt, Zu, Zv, Zw, Zx, Zy, Zz, Z10, Z11, Z12, Z13, Z14, Z15, Z16, Z17, Z18, Z19, Z1a, Z1b, Z1c, Z1d, Z1e, Z1f, Z1g, Z1h, Z1i, Z1j, Z1k, Z1l, Z1m, Z1n, Z1o, Z1p, Z1q, Z1r, Z1s, Z1t, Z1u, Z1v, Z1w, Z1x, Z1y, Z1z, Z20, Z21, Z22, Z23, Z24, Z25, Z26, Z27, Z28, Z29, Z2a, Z2b, Z2c, Z2d, Z2e, Z2f, Z2g, Z2h, Z2i, Z2j, Z2k, Z2l, Z2m, Z2n, Z2o, Z2p, Z2q, Z2r, Z2s, Z2t, Z2u, Z2v, Z2w, Z2x, Z2y, Z2z, Z30, Z31, Z32, Z33, Z34, Z35, Z36, Z37, Z38, Z39, Z3a, Z3b, Z3c, Z3d, Z3e, Z3f, Z3g], []⟩ W := by
  have bi := vi.bi
  have hent : ∀ j, s.ent j ≤ 512 := fun j => by have := bi.ent j; have := bi.ct; omega
  have hlow : ∀ j, s.low j ≤ 512 := fun j => by have := bi.low j; have := bi.ct; omega
  rw [show (Tryd.f46.body.bind rangeBody) = some _ from rfl] at hcd
  obtain rfl := Option.some.inj hcd
  clear hcd
  have HQ := Lib.hid hQ
  clear hQ
  have HE : Hid (∀ (e : Exit) (a' : Act) (W' : World), (e = .normal ∨ e = .exit 1) → (∃ vK' vB' ls', BSt w0 W' a pv n (stepB (visit R f) v p s x) vK' vB' ls' ∧ Fr a W W' vK vB vK' vB') → Exit.noGoto (Exit.inBlock 1 Q) e a' W') := Lib.hid (fun e a' W' he h => by
    rcases he with rfl | rfl
    · exact HQ.out a' W' h
    · exact (show Exit.inBlock 1 Q (.exit 1) a' W' from (by simp only [Exit.inBlock, if_true]; exact HQ.out a' W' h)))
  clear HQ
  have c11 := y11.c1
  by_cases hp : (x : Int) = p
  · have q0 : ((x : Int) == p) = true := by simpa using hp
    have HST : Hid (stepB (visit R f) v p s x = s) := Lib.hid (by unfold stepB; rw [if_pos hp])
    clear hp
    gi_wp2
    refine wpIn_scope_straight ?_
    gi_wp2
    exact HE.out _ _ _ (.inr rfl) ⟨vK, vB, ls, by rw [HST.out]; exact st, Fr.refl_ _ _ _ _⟩
  · have q0 : ((x : Int) == p) = false := by simpa using hp
    have d0 := st.xE.c1
    have d1 := (num_at st.oE hx).1
    have x0 : (0 : Int) ≤ (x : Int) := by omega
    have x1 : (x : Int) < (n : Int) := by omega
    by_cases h0 : 0 < s.ent x
    · have HST : Hid (stepB (visit R f) v p s x = setlow v (min (s.low v) (s.ent x)) s) := Lib.hid (by unfold stepB; rw [if_neg hp, if_pos h0])
      have q1 : decide ((0 : Int) < (s.ent x : Int)) = true := decide_eq_true (by omega)
      clear hp
      have e0 := st.xL.c1
      have e1 := y10.c1
      obtain ⟨c2, f2⟩ := num_at st.oL hv
      have x2 : (0 : Int) ≤ (v : Int) := by omega
      have x3 : (v : Int) < (n : Int) := by omega
      gi_wp2
      refine wpIn_scope_straight ?_
      gi_wp2
      rename_i K0 hK0
      refine wpIn_region_drw_tail 11 (by kernel_rfl) (by kernel_rfl) (by kernel_rfl) ?_
      simp only [List.take_succ_cons, List.take_zero, List.drop_succ_cons, List.drop_zero]
      iterate 11 (go_big_quiet_step (fail))
      refine wpQuiet_nil ?_
      rintro w1 ⟨⟨q⟩, rfl⟩
      dsimp only [Drw.val]
      have hb1 : Below W.heap.size W (W.drewN q) := below_drewN (Below.refl _ _) q
      have st1 := st.next o hb1
      have fr1 : Fr a W (W.drewN q) vK vB vK vB := Fr.of_below hb1
      clear st y10 y11 c11 d0 d1 e0 e1 c2 f2 hb1
      generalize W.drewN q = X at *
      obtain ⟨c2, f2⟩ := num_at st1.oL hv
      have st2 := st1.setL o hv (min (s.low v) (s.ent x))
      have fr2 := fr1.trans (Fr.of_grown (grown_set X a.gL v (.int .i64 (min (s.low v : Int) (s.ent x : Int)))) (by simp))
      obtain ⟨Y, hY⟩ : ∃ Y, X.setCell ⟨a.gL, v, none⟩ (.int .i64 (min (s.low v : Int) (s.ent x : Int))) = Y := ⟨_, rfl⟩
      rw [hY] at fr2
      have st2 : BSt w0 Y a pv n (setlow v (min (s.low v) (s.ent x)) s) vK vB ls := by
        rw [← hY]
        have e : (Value.int .i64 (min (s.low v : Int) (s.ent x : Int))) = .int .i64 ((min (s.low v) (s.ent x) : Nat) : Int) := by congr 1; omega
        rw [e]
        exact st2
      go_wp2_with fail
      refine onlyK_of ?_
      refine hK0 _ _ ?_
      gi_wp2_with fail
      exact HE.out _ _ _ (.inr rfl) ⟨vK, vB, ls, by rw [HST.out]; exact st2, fr2⟩
    · have hx0 : s.ent x = 0 := by omega
      have HST : Hid (stepB (visit R f) v p s x = fin v x (visit R f x v s)) := Lib.hid (by unfold stepB; rw [if_neg hp, if_neg h0])
      have q1 : decide ((0 : Int) < (s.ent x : Int)) = false := decide_eq_false (by omega)
      have kI := ih hx0
      have HVX := Lib.hid (hvi hx0)
      clear hp ih hvi
      have d2 := st.xV.c1
      have d3 := y10.c1
      rw [show (#[Value.int .i64 (x : Int), .int .i64 (v : Int)] ++ caps a) = #[Value.int .i64 (x : Int), .int .i64 (v : Int), ptr a.bK, ptr a.bT, ptr a.bE, ptr a.bL, ptr a.b1, ptr a.bV, ptr a.bS, ptr a.bB] from rfl] at kI
      have hstk : ∃ pre rest r2, (visit R f x v s).stack = pre ++ v :: (rest ++ x :: r2) := by
        obtain ⟨rest, e⟩ := vi.stk
        obtain ⟨rest2, e2⟩ := HVX.out.stk
        exact ⟨s0.stack, rest, rest2, by rw [e2, e]; simp⟩
      have HSK := Lib.hid hstk
      clear hstk
      gi_wp2
      refine wpIn_scope_straight ?_
      gi_wp2
      rename_i K1 hK1 K0 hK0
      refine ⟨trivial, ?_⟩
      refine (callsIn_wide.2 kI).mono ?_
      rintro e W1 ⟨rfl, vK1, vB1, ls1, st1, fr1⟩
      have y1 := y10.fr fr1 o hb10 h10K h10B
      have hst1 := HVX.out.bi
      clear d0 d1 d2 d3 c11 kI y10 y11 st q0 q1
      refine hK0 _ _ ?_
      unfold wpListIn
      refine hK1 _ _ ?_
      clear hK0 hK1
      generalize visit R f x v s = s1 at *
      refine visit_tail w0 W1 a o pv n hn s1 x v b10 vK1 vB1 ls1 hb10 hv hx st1 hst1 y1 HSK.out rfl ?_
      intro e a' W' he ⟨vK', vB', ls', h1, h2⟩
      exact HE.out e a' W' he ⟨vK', vB', ls', by rw [HST.out]; exact h1, fr1.trans h2⟩
end Go.Proofs.YtjoomgojnpcbeaaDoor
end

section
namespace Go.Proofs.YtjoomgojnpcbeaaDoor
open Go Go.RowKit Gh
set_option maxRecDepth 100000
theorem BSh.same {w0 W W' : World} {a : BA} {pv : Value} {n : Nat} {s : Bk} {vX vK vB vY : Value} {ls : List SLc} {B : Nat} (h : BSh w0 W a pv n s vX vK vB vY ls) (hs : SameC B W W') (hB : a.h ≤ B) : BSh w0 W' a pv n s vX vK vB vY ls :=
  { bel := h.bel.trans (hs.below.mono hB), x1 := hs.box h.x1, xT := hs.box h.xT, xE := hs.box h.xE, xL := hs.box h.xL, xS := hs.box h.xS, xK := hs.box h.xK, xB := hs.box h.xB, xV := hs.box h.xV, oE := hs.own h.oE, oL := hs.own h.oL, oS := hs.own h.oS, oK := hs.own h.oK, lo := hs.lo h.lo, lsx := h.lsx, off := h.off }
theorem Fr.same {a : BA} {W W1 W' : World} {vK vB vK' vB' : Value} (h : Fr a W W1 vK vB vK' vB') (hs : SameC W.heap.size W1 W') : Fr a W W' vK vB vK' vB' :=
  ⟨hs.below.os.trans h.os, hs.below.tape.trans h.tape, hs.below.output.trans h.output, by rw [hs.size]; exact h.size, fun k hk h1 h2 h3 h4 h5 h6 h7 h8 => (hs.below.block k hk).trans (h.block k hk h1 h2 h3 h4 h5 h6 h7 h8), h.k, h.b⟩
structure VH (w0 : World) (a : BA) (bg : Nat) (A : Option Addr) (c : Nat) (R : List Nat) (edges : Int) : Prop where
  ok : a.Ok
  h : a.h = w0.heap.size
  g : GG w0 bg A c R edges
  tab : Tab64 w0
  len : R.length ≤ 512
  fit : ∀ v w, (Dg.row R v).testBit w = true → w < R.length
set_option maxHeartbeats 32000000 in
theorem visit_step (w0 : World) (a : BA) (bg : Nat) (A : Option Addr) (c : Nat) (R : List Nat) (edges : Int) (H : VH w0 a bg A c R edges) (f : Nat)
    (ih : ∀ (v : Nat) (p : Int) (s : Bk) (W : World) (vK vB : Value) (ls : List SLc), BSt w0 W a (gp bg) R.length s vK vB ls → BI R.length s → v < R.length → s.ent v = 0 → left R.length s ≤ f → Calls Tryd.prog 46 (#[.int .i64 v, .int .i64 p] ++ caps a) W fun e W' => e = .returned (.tuple #[]) ∧ ∃ vK' vB' ls', BSt w0 W' a (gp bg) R.length (visit R f v p s) vK' vB' ls' ∧ Fr a W W' vK vB vK' vB')
    (v : Nat) (p : Int) (s : Bk) (W : World) (vK vB : Value) (ls : List SLc) (st : BSt w0 W a (gp bg) R.length s vK vB ls) (bi : BI R.length s) (hv : v < R.length) (h0 : s.ent v = 0) (hf : left R.length s ≤ f + 1) :
    Calls Tryd.prog 46 (#[.int .i64 v, .int .i64 p] ++ caps a) W fun e W' => e = .returned (.tuple #[]) ∧ ∃ vK' vB' ls', BSt w0 W' a (gp bg) R.length (visit R (f + 1) v p s) vK' vB' ls' ∧ Fr a W W' vK vB vK' vB' := by
  obtain ⟨i0, hi0, hz0, hz1, hz2⟩ := info_parts intInfoD
  have Hi := Lib.hid hi0; have Hz0 := Lib.hid hz0; have Hz1 := Lib.hid hz1; have Hz2 := Lib.hid hz2
  clear hi0 hz0 hz1 hz2
  obtain ⟨V, HW, x10, x11, hB, hsV⟩ := boxes2 W #[.int .i64 v] 3 #[.int .i64 p] 3
  have HSV := Lib.hid hsV
  clear hsV
  have st1 := st.next H.ok hB
  have fr1 : Fr a W V vK vB vK vB := Fr.of_below hB
  have hl1 := st.lt
  have hstl : s.stack.length ≤ 512 := by have := bi.cb; have := bi.ct; have := H.len; omega
  have htm : s.time ≤ 512 := by have := bi.ct; have := H.len; omega
  have e1 := st1.xK.c1
  have e2 := x10.c1
  have hV := HW.out
  refine calls_marks Tryd.func46 rfl ?_
  simp only [Tryd.ntmps46, List.size_toArray, List.length_cons, List.length_nil, Nat.reduceAdd, Nat.reduceSub, Array.replicate_succ, Array.replicate_zero, List.push_toArray, List.append_toArray, List.nil_append, List.cons_append, caps]
  go_wp2_with (at_builtin; go_loud (
    refine wpList_push_at (cell := icell) (y := (v : Int)) rfl _ _ _ rfl (a.bV + 1) 3 i0 _ 8 Tryd.underlying31 Hi.out Hz0.out Hz1.out Hz2.out rfl (by decide) _ _ _ rfl st1.oK _ _ rfl _ rfl (fun _ => rfl) (by unfold maxLen; omega) (by omega) (by have := HSV.out; omega) ?_
    intro v1 w1 hown1 hg1 hat1
    have st2 := st1.stk (st := s.stack ++ [v]) H.ok (by rw [bsl_snoc, List.length_append]; exact hown1) hg1 hat1
    obtain ⟨X1, hX1⟩ : ∃ X, w1.setCell ⟨a.bK, 0, none⟩ v1 = X := ⟨_, rfl⟩
    have fr2 : Fr a V X1 vK vB v1 vB := by rw [← hX1]; exact (Fr.of_K hg1 hat1).trans (Fr.of_grown (grown_set _ _ _ _) (by simp))
    rw [hX1] at st2
    have x10' := x10.fr fr2 H.ok (by omega) (fun e => by have := (st.oK.lt _ e.symm).2; omega) (fun e => by have := (st.lo.outer.lt _ e.symm).2; omega)
    have x11' := x11.fr fr2 H.ok (by omega) (fun e => by have := (st.oK.lt _ e.symm).2; omega) (fun e => by have := (st.lo.outer.lt _ e.symm).2; omega)
    have d1 := (st1.xK.grown hg1 (fun e => by have := (st1.oK.lt _ e.symm).1; have := H.ok.all; omega))
    have d2 := d1.frozen 0
    have d1 := d1.c1
    have d3 := st2.xT.c1
    have d4 := st2.xT.frozen 0
    obtain ⟨g1, cap1, rfl⟩ := ownsRow_succ hown1
    have HG1 : Hid (g1 ≠ W.heap.size ∧ g1 ≠ W.heap.size + 1) := Lib.hid (by
      rcases hat1 with h1 | h1
      · have h2 : vK.ownBlock = some g1 := h1.symm
        have := (st.oK.lt _ h2).2
        omega
      · have := h1 g1 rfl
        have := HSV.out
        omega)
    have st3 := st2.setT H.ok (s.time + 1)
    obtain ⟨X2, hX2⟩ : ∃ X2, X1.setCell ⟨a.bT, 0, none⟩ (.int .i64 ((s.time : Int) + 1)) = X2 := ⟨_, rfl⟩
    have x10'' := x10'.set_other (p := ⟨a.bT, 0, none⟩) (by have := H.ok.all; dsimp only; omega) (.int .i64 ((s.time : Int) + 1))
    have x11'' := x11'.set_other (p := ⟨a.bT, 0, none⟩) (by have := H.ok.all; dsimp only; omega) (.int .i64 ((s.time : Int) + 1))
    have fr3 : Fr a X1 X2 (.slice (some ⟨g1, 0, none⟩) (s.stack.length + 1) cap1) vB (.slice (some ⟨g1, 0, none⟩) (s.stack.length + 1) cap1) vB := by rw [← hX2]; exact Fr.of_grown (grown_set _ _ _ _) (by simp)
    have st3 : BSt w0 X2 a (gp bg) R.length { s with time := s.time + 1, stack := s.stack ++ [v] } (.slice (some ⟨g1, 0, none⟩) (s.stack.length + 1) cap1) vB ls := by rw [← hX2]; exact st3
    rw [hX2] at x10'' x11''
    have e3 := st3.xE.c1
    have e4 := st3.xL.c1
    have e5 := st3.xT.c1
    have e6 := x10''.c1
    obtain ⟨e7, e8⟩ := num_at st3.oE hv
    have st4 := st3.setE H.ok hv (s.time + 1)
    have x10b := x10''.set_other (p := ⟨a.gE, v, none⟩) (by have := H.ok.all; dsimp only; omega) (.int .i64 ((s.time : Int) + 1))
    have x11b := x11''.set_other (p := ⟨a.gE, v, none⟩) (by have := H.ok.all; dsimp only; omega) (.int .i64 ((s.time : Int) + 1))
    have fr4 := Fr.of_grown (vK := (.slice (some ⟨g1, 0, none⟩) (s.stack.length + 1) cap1)) (vB := vB) (grown_set X2 a.gE v (.int .i64 ((s.time : Int) + 1))) (a := a) (by simp)
    obtain ⟨X3, hX3⟩ : ∃ X3, X2.setCell ⟨a.gE, v, none⟩ (.int .i64 ((s.time : Int) + 1)) = X3 := ⟨_, rfl⟩
    rw [hX3] at x10b x11b fr4
    have st4 : BSt w0 X3 a (gp bg) R.length { s with time := s.time + 1, ent := upd s.ent v (s.time + 1), stack := s.stack ++ [v] } (.slice (some ⟨g1, 0, none⟩) (s.stack.length + 1) cap1) vB ls := by rw [← hX3]; exact st4
    have e9 := st4.xL.c1
    have e10 := st4.xT.c1
    have e11 := x10b.c1
    obtain ⟨e12, e13⟩ := num_at st4.oL hv
    have st5 := st4.setL H.ok hv (s.time + 1)
    have x10c := x10b.set_other (p := ⟨a.gL, v, none⟩) (by have := H.ok.all; dsimp only; omega) (.int .i64 ((s.time : Int) + 1))
    have x11c := x11b.set_other (p := ⟨a.gL, v, none⟩) (by have := H.ok.all; dsimp only; omega) (.int .i64 ((s.time : Int) + 1))
    have fr5 := Fr.of_grown (vK := (.slice (some ⟨g1, 0, none⟩) (s.stack.length + 1) cap1)) (vB := vB) (grown_set X3 a.gL v (.int .i64 ((s.time : Int) + 1))) (a := a) (by simp)
    obtain ⟨X4, hX4⟩ : ∃ X4, X3.setCell ⟨a.gL, v, none⟩ (.int .i64 ((s.time : Int) + 1)) = X4 := ⟨_, rfl⟩
    rw [hX4] at x10c x11c fr5
    have st5 : BSt w0 X4 a (gp bg) R.length (enter v s) (.slice (some ⟨g1, 0, none⟩) (s.stack.length + 1) cap1) vB ls := by rw [← hX4]; exact st5
    have x0 : (0 : Int) ≤ (v : Int) := by omega
    have x1 : (v : Int) < (R.length : Int) := by omega
    have fr6 := (((fr1.trans fr2).trans fr3).trans fr4).trans fr5
    clear st1 st2 st3 st4 fr1 fr2 fr3 fr4 fr5 x10 x11 x10' x11' x10'' x11'' x10b x11b hown1 hg1 hat1))
  clear d1 d2 d3 d4 e1 e2 hV hX1 hX2
  go_region
  have hb5 : Below X4.heap.size X4 X4.drew := (Below.refl _ _).drew
  have st6 := st5.next H.ok hb5
  have fr7 := fr6.trans (Fr.of_below hb5)
  have y10 := x10c.below hb5
  have y11 := x11c.below hb5
  clear e3 e4 e5 e6 e7 e8 e9 e10 e11 e12 e13 hX3 hX4 st5 fr6 x10c x11c hb5
  generalize X4.drew = X5 at *
  have gg := H.g.next (by rw [← H.h]; exact st6.bel)
  obtain ⟨la, hla, hlb, a0, a1, a2, a3, a4, a5, a6, a7⟩ := gg.rows.bs8 hv
  have HRW : Hid (R[v] = Dg.row R v) := Lib.hid (row_at hv).symm
  obtain ⟨rv, hrv⟩ : ∃ r, R[v] = r := ⟨_, rfl⟩
  rw [hrv] at a0 a1 a2 a3 a4 a5 a6 a7 HRW
  obtain ⟨c0, c1, c2⟩ := gg.box.c3
  have d0 := st6.x1.c1
  have d1 := y10.c1
  subst hla
  go_wp2_with fail
  refine wp_region_drw_tail 7 (by kernel_rfl) (by kernel_rfl) ?_
  simp only [List.take_succ_cons, List.take_zero, List.drop_succ_cons, List.drop_zero]
  repeat (go_big_quiet_step (fail))
  refine wpQuiet_nil ?_
  rintro w5 ⟨⟨q⟩, rfl⟩
  dsimp only [Drw.val]
  have hb6 : Below X5.heap.size X5 (X5.drewN q) := below_drewN (Below.refl _ _) q
  have st7 := st6.next H.ok hb6
  have fr8 := fr7.trans (Fr.of_below hb6)
  have z10 := y10.below hb6
  have z11 := y11.below hb6
  clear st6 fr7 y10 y11 hb6 gg c0 c1 c2 d0 d1 a0 a1 a2 a3 a4 a5 a6 a7 hrv
  generalize X5.drewN q = X6 at *
  go_wp2_with fail
  refine (bsAll_ok rv X6).mono ?_
  rintro e w7 ⟨rfl, hb7, hs7, xb⟩
  have st8 := st7.next H.ok hb7
  have fr9 := fr8.trans (Fr.of_below hb7)
  have y10 := z10.below hb7
  have y11 := z11.below hb7
  have hlt6 := st7.lt
  have HX : Hid ((∀ k, k = W.heap.size ∨ k = W.heap.size + 1 ∨ k = X6.heap.size → some k ≠ (Value.slice (some ⟨g1, 0, none⟩) (s.stack.length + 1) cap1).ownBlock) ∧ (∀ k, k = W.heap.size ∨ k = W.heap.size + 1 ∨ k = X6.heap.size → some k ≠ vB.ownBlock)) := Lib.hid ⟨fun k hk e => by
      have h1 := (st7.oK.lt _ e.symm).2
      have h2 : k = g1 := Option.some.inj e
      have := HG1.out
      omega, fun k hk e => by
      have h1 := (st7.lo.outer.lt _ e.symm).2
      have h2 := (st.lo.outer.lt _ e.symm).2
      omega⟩
  have hlK := z10.lt
  have hlK1 := z11.lt
  clear st7 fr8 z10 z11
  go_wp2_with fail
  have hI0 : left R.length (Gh.enter v s) ≤ f := by have := left_enter hv h0; omega
  have vi0 := VI.enter bi hv h0
  have HVI := Lib.hid (fun l (hl : ∀ w ∈ l, w < R.length) => fold_vi (p := p) (vis := visit R f) (f := f) (fun w s1 hw hb h0' hf' => visit_vi H.fit H.len f w v s1 hw hb h0' hf') l (enter v s) hl hI0 vi0)
  refine wp_range (gf := 65) (lb := #[.pointer (some ⟨X6.heap.size, 0, none⟩)]) rfl (enters_of Tryd.func65 (by kernel_rfl) rfl) (bsAll_seq X6.heap.size rv) (fun _ => rfl)
    (fun pre W1 => ∃ vK' vB' ls', BSt w0 W1 a (gp bg) R.length (pre.foldl (stepB (visit R f) v p) (enter v s)) vK' vB' ls' ∧ Fr a w7 W1 (.slice (some ⟨g1, 0, none⟩) (s.stack.length + 1) cap1) vB vK' vB') (fun _ _ _ => False)
    ?hI (fun _ _ _ _ _ h => h.elim) ?hK ⟨_, _, _, st8, Fr.refl_ _ _ _ _⟩ ?round ?done (fun _ _ _ h => h.elim)
  case hI => exact fun pre W1 W2 row ⟨vK', vB', ls', h1, h2⟩ hg hr => ⟨vK', vB', ls', h1.own (by have := H.ok.all; omega) H.ok hg hr, h2.own hg hr⟩
  case hK => exact fun pre W1 ⟨vK', vB', ls', h1, h2⟩ => ⟨xb.fr h2 H.ok (by omega) (HX.out.1 _ (by simp)) (HX.out.2 _ (by simp)), H.tab.kept (by rw [← H.h]; exact h1.bel)⟩
  case done =>
    rintro W1 ⟨vK', vB', ls', h1, h2⟩ hD
    have fr10 := fr9.trans h2
    go_wp2_with fail
    refine leaves_marks (B := W.heap.size) _ _ (Marks.none_.cons (C := w7.heap.size) (by have := hb7.size; have := fr9.size; omega) (Nat.le_refl _) hD) (fun W' hs => ?_)
    refine ⟨.tuple #[], by simp [results, Tryd.results46, go_sem], rfl, vK', vB', ls', ?_, ?_⟩
    · have := h1.same hs (by have := H.ok.all; omega)
      unfold visit
      rw [← HRW.out]
      exact this
    · exact fr10.same hs
  case round =>
    intro r' pre x post W1 hL hl hd hi
    gi_wp2
    refine ⟨hl, hd, hi, fun _ => True, fun _ _ _ _ _ _ _ => trivial, trivial, ?_⟩
    clear hl hd hi
    rintro r'' W2 hl hd ⟨vK', vB', ls', s1, fq⟩ -
    have hxr : rv.testBit x = true := (Bs.mem_els (by rw [HRW.out]; exact fun i hi => by cases hc : (Dg.row R v).testBit i with | false => rfl | true => have := H.fit v i hc; have := H.len; omega)).1 (by rw [hL]; simp)
    have hxn : x < R.length := H.fit v x (by rw [← HRW.out]; exact hxr)
    obtain ⟨vi1, hlf⟩ := HVI.out pre (fun w hw => H.fit v w (by
      rw [← HRW.out]
      exact (Bs.mem_els (by rw [HRW.out]; exact fun i hi => by cases hc : (Dg.row R v).testBit i with | false => rfl | true => have := H.fit v i hc; have := H.len; omega)).1 (by rw [hL]; simp [hw])))
    rw [List.foldl_append, List.foldl_cons, List.foldl_nil]
    clear hL hxr
    generalize pre.foldl (stepB (visit R f) v p) (Gh.enter v s) = σ at *
    have y10 := y10.fr fq H.ok (by omega) (HX.out.1 _ (by simp)) (HX.out.2 _ (by simp))
    have y11 := y11.fr fq H.ok (by omega) (HX.out.1 _ (by simp)) (HX.out.2 _ (by simp))
    have hK1 : ∀ k, k = W.heap.size ∨ k = W.heap.size + 1 → some k ≠ vK'.ownBlock := fun k hk e => by
      rcases fq.k with h1 | h1
      · rw [h1] at e
        exact HX.out.1 k (by omega) e
      · have := h1 k e.symm
        have := hb7.size
        omega
    have hK2 : ∀ k, k = W.heap.size ∨ k = W.heap.size + 1 → some k ≠ vB'.ownBlock := fun k hk e => by
      rcases fq.b with h1 | h1
      · rw [h1] at e
        exact HX.out.2 k (by omega) e
      · have := h1 k e.symm
        have := hb7.size
        omega
    refine visit_round w0 W2 a H.ok (gp bg) R.length H.len R f s σ x v W.heap.size (W.heap.size + 1) p vK' vB' ls' (by omega) (hK1 _ (by simp)) (hK2 _ (by simp)) hv hxn s1 vi1 y10 y11 (fun h0' => visit_vi H.fit H.len f x v σ hxn vi1.bi h0' hlf) (fun h0' => ih x v σ W2 vK' vB' ls' s1 vi1.bi hxn h0' hlf) rfl ?_
    rintro a' W' ⟨vK2, vB2, ls2, h1, h2⟩
    exact ⟨hl.fr rfl h2 s1, hd.fr rfl h2 s1, vK2, vB2, ls2, h1, fq.trans h2⟩
theorem visit_ok (w0 : World) (a : BA) (bg : Nat) (A : Option Addr) (c : Nat) (R : List Nat) (edges : Int) (H : VH w0 a bg A c R edges) : ∀ (f v : Nat) (p : Int) (s : Bk) (W : World) (vK vB : Value) (ls : List SLc), BSt w0 W a (gp bg) R.length s vK vB ls → BI R.length s → v < R.length → s.ent v = 0 → left R.length s ≤ f → Calls Tryd.prog 46 (#[.int .i64 v, .int .i64 p] ++ caps a) W fun e W' => e = .returned (.tuple #[]) ∧ ∃ vK' vB' ls', BSt w0 W' a (gp bg) R.length (visit R f v p s) vK' vB' ls' ∧ Fr a W W' vK vB vK' vB'
  | 0, v, p, s, W, vK, vB, ls, st, bi, hv, h0, hf => by
    have := left_enter hv h0
    omega
  | f + 1, v, p, s, W, vK, vB, ls, st, bi, hv, h0, hf => visit_step w0 a bg A c R edges H f (visit_ok w0 a bg A c R edges H f) v p s W vK vB ls st bi hv h0 hf
end Go.Proofs.YtjoomgojnpcbeaaDoor
end
