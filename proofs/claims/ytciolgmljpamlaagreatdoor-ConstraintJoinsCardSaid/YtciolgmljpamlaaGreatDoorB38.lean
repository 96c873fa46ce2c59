/- A bundle of texts: Rf10a. -/
import Derived.Test.YtciolgmljpamlaaGreatDoorB27
import Derived.Test.YtciolgmljpamlaaGreatDoorB01
import Derived.Deep.RegionHeld3
import Derived.Test.YtciolgmljpamlaaGreatDoorB36
import Derived.Deep.RegionLaw
section
namespace Go.Proofs.YtciolgmljpamlaaGreatDoor
open Go Go.RowKit
set_option maxRecDepth 100000
theorem step_pushR {α : Type} {P : Program} {size : Nat} {cell : α → Nat → Value} {w w0 : World} {ops : Array Oper} {o : Oper} {a : Act} {K : Act → World → Prop} {Q : Exit → Act → World → Prop} {E : Prop} (hgd : o.guard = none) (s x : Operand) (t : TypeId)
    (ho : o.op = .call { callee := .builtin .append, args := #[s, x], argTypes := #[t, t] })
    (base B : Nat) (e : TypeId) (i : TypeInfo) (z : Value) (bytes : Nat) (ht : P.underlying t = some (.slice e)) (hi : P.info? e = some i) (hz : i.zero = some z)
    (hsize : i.size = size) (hby : i.bytes = bytes) (hzs : z.cells.size = size) (hsz : 0 < size)
    (v : Value) (n : Nat) (xs : List α) (y : α) (hs : a.eval s = v) (hown : w.ownsRow base e size v n (flat size cell xs))
    (cs : Array Value) (te : TypeId) (hcs : cs.toList = (List.range size).map (cell y)) (c : Nat) (hx : a.eval x = .slice (some ⟨w.heap.size, 0, none⟩) 1 c) (h1 : ∀ j, (cell y j).oneCell' = true)
    (h63 : n + 1 ≤ maxLen) (hbytes : (n + 1) * bytes ≤ 140737488355328) (hbase : base ≤ w.heap.size) (hBb : B ≤ base) (hB : Below B w0 w)
    (h : ∀ v' w', w'.ownsRow base e size v' (n + 1) (flat size cell (xs ++ [y])) → Below B w0 w' → w.grownBy w' v.ownBlock → K (a.put o.dst v') w') :
    if Region.wanted o (yielded ops a.tmps) = true then Oper.wp P o a (w.alloc (.cells cs te)) K Q else E := by
  have hw : Region.wanted o (yielded ops a.tmps) = true := by simp [Region.wanted, hgd]
  rw [if_pos hw]
  obtain ⟨v', w', hrun, h2, h3, _, h5⟩ := run_append_own_at (P := P) (w.alloc (.cells cs te)) base t o.type e i z size bytes ht hi hz hsize hby hzs hsz v n (flat size cell xs) (hown.alloc _) ⟨w.heap.size, 0, none⟩ 1 c cs.toList (by rw [hcs]; simp) (by
    intro j u hj
    have hb : (w.alloc (.cells cs te)).heap[w.heap.size]? = some (.cells cs te (0, 0)) := heap_alloc_new w _
    have e1 : (⟨w.heap.size, 0, none⟩ : Addr).add j = ⟨w.heap.size, j, none⟩ := by unfold Addr.add; split <;> simp_all
    rw [e1, cell_of_row _ _ _ _ _ _ hb]
    simpa using hj) (by
    intro u hu
    rw [hcs] at hu
    obtain ⟨j, _, rfl⟩ := List.mem_map.1 hu
    exact h1 j) h63 hbytes (by simp; omega)
  unfold Oper.wp execOp
  simp only [ho, resolve, invoke, builtin, Sem.run_bind, Sem.run_pure, Result.andThen_ok, List.map_toArray, List.map_cons, List.map_nil, hs, hx, hrun]
  have hg' := grown_alloc h3
  refine h v' w' (by rw [flat_append, flat_one, ← hcs]; exact h2) (hB.grown hg' (by omega) fun k hk => ?_) hg'
  have := (hown.lt k hk).1
  omega
theorem M.mrg_b {α : Type} {cf : α → α → Int} {a b : List α} {k : Nat} (hk : k < b.length) (h : a = [] ∨ ∃ x r, a = x :: r ∧ 0 < cf x b[k]) : M.mrg cf a (b.drop k) = b[k] :: M.mrg cf a (b.drop (k + 1)) := by
  rw [List.drop_eq_getElem_cons hk]
  rcases h with rfl | ⟨x, r, rfl, h⟩
  · rw [M.mrg_nil, M.mrg_nil]
  · rw [M.mrg_gt h]
theorem M.mrg_bn {α : Type} {cf : α → α → Int} {a b os m : List α} {i k : Nat} (hk : k < b.length) (hi : ¬ i < a.length) (h : os ++ M.mrg cf (a.drop i) (b.drop k) = m) : (os ++ [b[k]]) ++ M.mrg cf (a.drop i) (b.drop (k + 1)) = m := by
  rw [← h, M.mrg_b hk (.inl (List.drop_eq_nil_of_le (by omega)))]; simp
theorem M.mrg_bl {α : Type} {cf : α → α → Int} {a b os m : List α} {i k : Nat} (hi : i < a.length) (hk : k < b.length) (hc : 0 < cf a[i] b[k]) (h : os ++ M.mrg cf (a.drop i) (b.drop k) = m) : (os ++ [b[k]]) ++ M.mrg cf (a.drop i) (b.drop (k + 1)) = m := by
  rw [← h, M.mrg_b hk (.inr ⟨_, _, List.drop_eq_getElem_cons hi, hc⟩)]; simp
theorem M.mrg_an {α : Type} {cf : α → α → Int} {a b os m : List α} {i k : Nat} (hi : i < a.length) (hk : ¬ k < b.length) (h : os ++ M.mrg cf (a.drop i) (b.drop k) = m) : (os ++ [a[i]]) ++ M.mrg cf (a.drop (i + 1)) (b.drop k) = m := by
  rw [← h, show b.drop k = [] from List.drop_eq_nil_of_le (by omega), M.mrg_nil2, M.mrg_nil2, List.drop_eq_getElem_cons hi]; simp
theorem M.mrg_al {α : Type} {cf : α → α → Int} {a b os m : List α} {i k : Nat} (hi : i < a.length) (hk : k < b.length) (hc : cf a[i] b[k] < 0) (h : os ++ M.mrg cf (a.drop i) (b.drop k) = m) : (os ++ [a[i]]) ++ M.mrg cf (a.drop (i + 1)) (b.drop k) = m := by
  rw [← h, List.drop_eq_getElem_cons hk, List.drop_eq_getElem_cons hi, M.mrg_lt hc]; simp
theorem M.mrg_ab {α : Type} {cf : α → α → Int} {a b os m : List α} {i k : Nat} (hi : i < a.length) (hk : k < b.length) (hc : cf a[i] b[k] = 0) (h : os ++ M.mrg cf (a.drop i) (b.drop k) = m) : (os ++ [a[i]]) ++ M.mrg cf (a.drop (i + 1)) (b.drop (k + 1)) = m := by
  rw [← h, List.drop_eq_getElem_cons hk, List.drop_eq_getElem_cons hi, M.mrg_eq hc]; simp
theorem M.ls5_gt {x y : P5} (h : M.lessI y.l x.l = true) : 0 < M.cmp5 x y := (M.cmp5_ord.flip x y).2 (M.lt5_cmp.1 h)
theorem M.ls5_lt {x y : P5} (h : M.lessI y.l x.l = false) (hn : x ≠ y) : M.cmp5 x y < 0 := by
  have h1 : ¬ 0 < M.cmp5 x y := fun h2 => by have := M.lt5_cmp.2 ((M.cmp5_ord.flip x y).1 h2); unfold M.lt5 at this; rw [h] at this; cases this
  have h2 : ¬ M.cmp5 x y = 0 := fun h2 => hn (M.cmp5_zero.1 h2)
  omega
theorem M.ls4_gt {x y : P4} (h : M.lessI y.l x.l = true) : 0 < M.cmp4 x y := (M.cmp4_ord.flip x y).2 (M.lt4_cmp.1 h)
theorem M.ls4_lt {x y : P4} (h : M.lessI y.l x.l = false) (hn : x ≠ y) : M.cmp4 x y < 0 := by
  have h1 : ¬ 0 < M.cmp4 x y := fun h2 => by have := M.lt4_cmp.2 ((M.cmp4_ord.flip x y).1 h2); unfold M.lt4 at this; rw [h] at this; cases this
  have h2 : ¬ M.cmp4 x y = 0 := fun h2 => hn (M.cmp4_zero.1 h2)
  omega
def M.takeB {α : Type} (f : α → α → Bool) (a b : List α) (i k : Nat) : Bool := if h : i < a.length then (if h2 : k < b.length then f b[k] a[i] else false) else true
def M.takeE {α : Type} [DecidableEq α] (a b : List α) (i k : Nat) : Bool := if h : i < a.length ∧ k < b.length then decide (a[i] = b[k]) else false
theorem M.takeB_hi {α : Type} {f : α → α → Bool} {a b : List α} {i k : Nat} (h : ¬ i < a.length) : M.takeB f a b i k = true := by unfold M.takeB; rw [dif_neg h]
theorem M.takeB_no {α : Type} {f : α → α → Bool} {a b : List α} {i k : Nat} (h : i < a.length) (h2 : ¬ k < b.length) : M.takeB f a b i k = false := by unfold M.takeB; rw [dif_pos h, dif_neg h2]
theorem M.takeB_at {α : Type} {f : α → α → Bool} {a b : List α} {i k : Nat} (h : i < a.length) (h2 : k < b.length) : M.takeB f a b i k = f b[k] a[i] := by unfold M.takeB; rw [dif_pos h, dif_pos h2]
theorem M.takeE_no {α : Type} [DecidableEq α] {a b : List α} {i k : Nat} (h : ¬ k < b.length) : M.takeE a b i k = false := by unfold M.takeE; rw [dif_neg (fun h2 => h h2.2)]
theorem M.takeE_at {α : Type} [DecidableEq α] {a b : List α} {i k : Nat} (h : i < a.length) (h2 : k < b.length) : M.takeE a b i k = decide (a[i] = b[k]) := by unfold M.takeE; rw [dif_pos ⟨h, h2⟩]
theorem M.step_b {α : Type} {cf : α → α → Int} {f : α → α → Bool} (hg : ∀ {x y}, f y x = true → 0 < cf x y) {a b os m : List α} {i k : Nat} (hk : k < b.length) (ht : M.takeB f a b i k = true) (h : os ++ M.mrg cf (a.drop i) (b.drop k) = m) : (os ++ [b[k]]) ++ M.mrg cf (a.drop i) (b.drop (k + 1)) = m := by
  by_cases hi : i < a.length
  · rw [M.takeB_at hi hk] at ht
    exact M.mrg_bl hi hk (hg ht) h
  · exact M.mrg_bn hk hi h
theorem M.step_e {α : Type} [DecidableEq α] {cf : α → α → Int} (h0 : ∀ x, cf x x = 0) {a b os m : List α} {i k : Nat} (hi : i < a.length) (hk : k < b.length) (ht : M.takeE a b i k = true) (h : os ++ M.mrg cf (a.drop i) (b.drop k) = m) : (os ++ [a[i]]) ++ M.mrg cf (a.drop (i + 1)) (b.drop (k + 1)) = m := by
  rw [M.takeE_at hi hk, decide_eq_true_eq] at ht
  exact M.mrg_ab hi hk (by rw [← ht]; exact h0 _) h
theorem M.step_d {α : Type} [DecidableEq α] {cf : α → α → Int} {f : α → α → Bool} (hl : ∀ {x y}, f y x = false → x ≠ y → cf x y < 0) {a b os m : List α} {i k : Nat} (hi : i < a.length) (ht : M.takeB f a b i k = false) (he : M.takeE a b i k = false) (h : os ++ M.mrg cf (a.drop i) (b.drop k) = m) : (os ++ [a[i]]) ++ M.mrg cf (a.drop (i + 1)) (b.drop k) = m := by
  by_cases hk : k < b.length
  · rw [M.takeB_at hi hk] at ht
    rw [M.takeE_at hi hk, decide_eq_false_iff_not] at he
    exact M.mrg_al hi hk (hl ht he) h
  · exact M.mrg_an hi hk h
theorem M.takeE_lt {α : Type} [DecidableEq α] {a b : List α} {i k : Nat} (h : M.takeE a b i k = true) : k < b.length := by
  by_cases hk : k < b.length
  · exact hk
  · rw [M.takeE_no hk] at h; cases h
theorem M.takeB_lt {α : Type} {f : α → α → Bool} {a b : List α} {i k : Nat} (h : M.takeB f a b i k = false) : i < a.length := by
  by_cases hi : i < a.length
  · exact hi
  · rw [M.takeB_hi hi] at h; cases h
abbrev M.ls5 (x y : P5) : Bool := M.lessI x.l y.l
abbrev M.ls4 (x y : P4) : Bool := M.lessI x.l y.l
set_option maxHeartbeats 32000000 in
theorem j16_a0 {Q : Exit → Act → World → Prop} {cd : Code} {dl : List Deferred} {Z0 Z1 Z4 Z5 Z9 Za Zb Zc Zd Ze Zf Zg Zh Zi Zj Zk Zl Zm Zn Zo Zp Zq Zr Zs Zt Zu Zv Zw Zx Zy Zz Z10 Z11 Z12 Z13 Z14 Z15 Z16 Z17 Z18 Z19 Z1a Z1b Z1c Z1d Z1e Z1f Z1g Z1h Z1i Z1j Z1k Z1l Z1m Z1n Z1o Z1p Z1q Z1r Z1s Z1t Z1u Z1v Z1w Z1x Z1y Z1z Z20 Z21 Z22 Z23 Z24 Z25 Z26 Z27 Z28 Z29 Z2a Z2b Z2c Z2d Z2e Z2f Z2g Z2h Z2i Z2j Z2k Z2l Z2m Z2n Z2o Z2p Z2q Z2r Z2s Z2t Z2u Z2v Z2w Z2x Z2y Z2z Z30 Z31 Z32 Z33 Z34 Z35 Z36 Z37 Z38 Z39 Z3a Z3b Z3c Z3d Z3e Z3f Z3g Z3h Z3i Z3j Z3k Z3l Z3m Z3n Z3o Z3p Z3q Z3r Z3s Z3t Z3u Z3v Z3w Z3x Z3y Z3z Z40 Z41 Z42 Z43 Z44 Z45 Z46 Z47 Z48 Z49 Z4a Z4b Z4c Z4d Z4e Z4f Z4g Z4h Z4i Z4j Z4k Z4l Z4m Z4n Z4o Z4p Z4q Z4r Z4s Z4t Z4u Z4v Z4w Z4x Z4y Z4z Z50 Z51 Z52 Z53 Z54 Z55 Z56 Z57 Z58 Z59 Z5a Z5b Z5c Z5d Z5e Z5f Z5g Z5h Z5i Z5j Z5k Z5l Z5m Z5n Z5o Z5p Z5q Z5r Z5s Z5t Z5u Z5v Z5w Z5x Z5y Z5z Z60 Z61 Z62 Z63 Z64 Z65 Z66 Z67 Z68 Z69 Z6a Z6b Z6c Z6d Z6e Z6f Z6g Z6h Z6i Z6j Z6k Z6l Z6m Z6n Z6o Z6p Z6q Z6r Z6s Z6t Z6u Z6v Z6w Z6x Z6y Z6z Z70 Z71 Z72 Z73 Z74 Z75 Z76 Z77 Z78 Z79 Z7a Z7b Z7c Z7d Z7e Z7f Z7g Z7h Z7i Z7j Z7k Z7l Z7m Z7n Z7o Z7p Z7q Z7r Z7s Z7t Z7u Z7v Z7w Z7x Z7y Z7z Z80 Z81 Z82 Z83 Z84 Z85 Z86 Z87 Z88 Z89 Z8a Z8b Z8c Z8d Z8e Z8f Z8g Z8h Z8i Z8j Z8k Z8l Z8m Z8n Z8o Z8p : Value} (XA YA ZA XB YB ZB : Option Addr) (xc yc zc xd yd zd : Nat) (a1 a2 : List P5) (a3 : List P4) (b1 b2 : List P5) (b3 : List P4) (X : World) (ba bb br i k : Nat) (xa : Box X ba #[.slice XA a1.length xc, .slice YA a2.length yc, .slice ZA a3.length zc] 30) (xb : Box X bb #[.slice XB b1.length xd, .slice YB b2.length yd, .slice ZB b3.length zd] 30) (hA : Sl 5 p5cell X X.heap.size XA a1) (hB : Sl 5 p5cell X X.heap.size XB b1) (hi0 : i ≤ a1.length) (hk0 : k ≤ b1.length) (hcd : (Tryz.f29.body.bind (regionOf 7)) = some cd)
    (hQ : ∀ (y43 y44 y45 y46 y47 y48 y49 y50 y51 y52 y53 y54 y55 y56 y57 y58 y59 y60 y61 y62 y63 y64 y65 y66 y67 y68 : Value) (wo : World) (r : Bool), r = M.takeB M.ls5 a1 b1 i k → Below X.heap.size X wo → Q .normal ⟨#[Z0,Z1,.pointer (some ⟨ba, 0, none⟩),.pointer (some ⟨bb, 0, none⟩),Z4,Z5,.pointer (some ⟨br, 0, none⟩),.int .i64 i,.int .i64 k,Z9,Za,Zb,Zc,Zd,Ze,Zf,Zg,Zh,Zi,Zj,Zk,Zl,Zm,Zn,Zo,Zp,Zq,Zr,Zs,Zt,Zu,Zv,Zw,Zx,Zy,Zz,Z10,Z11,Z12,Z13,Z14,Z15,.bool r,y43,y44,y45,y46,y47,y48,y49,y50,y51,y52,y53,y54,y55,y56,y57,y58,y59,y60,y61,y62,y63,y64,y65,y66,y67,y68,.bool r,Z1y,Z1z,Z20,Z21,Z22,Z23,Z24,Z25,Z26,Z27,Z28,Z29,Z2a,Z2b,Z2c,Z2d,Z2e,Z2f,Z2g,Z2h,Z2i,Z2j,Z2k,Z2l,Z2m,Z2n,Z2o,Z2p,Z2q,Z2r,Z2s,Z2t,Z2u,Z2v,Z2w,Z2x,Z2y,Z2z,Z30,Z31,Z32,Z33,Z34,Z35,Z36,Z37,Z38,Z39,Z3a,Z3b,Z3c,Z3d,Z3e,Z3f,Z3g,Z3h,Z3i,Z3j,Z3k,Z3l,Z3m,Z3n,Z3o,Z3p,Z3q,Z3r,Z3s,Z3t,Z3u,Z3v,Z3w,Z3x,Z3y,Z3z,Z40,Z41,Z42,Z43,Z44,Z45,Z46,Z47,Z48,Z49,Z4a,Z4b,Z4c,Z4d,Z4e,Z4f,Z4g,Z4h,Z4i,Z4j,Z4k,Z4l,Z4m,Z4n,Z4o,Z4p,Z4q,Z4r,Z4s,Z4t,Z4u,Z4v,Z4w,Z4x,Z4y,Z4z,Z50,Z51,Z52,Z53,Z54,Z55,Z56,Z57,Z58,Z59,Z5a,Z5b,Z5c,Z5d,Z5e,Z5f,Z5g,Z5h,Z5i,Z5j,Z5k,Z5l,Z5m,Z5n,Z5o,Z5p,Z5q,Z5r,Z5s,Z5t,Z5u,Z5v,Z5w,Z5x,Z5y,Z5z,Z60,Z61,Z62,Z63,Z64,Z65,Z66,Z67,Z68,Z69,Z6a,Z6b,Z6c,Z6d,Z6e,Z6f,Z6g,Z6h,Z6i,Z6j,Z6k,Z6l,Z6m,Z6n,Z6o,Z6p,Z6q,Z6r,Z6s,Z6t,Z6u,Z6v,Z6w,Z6x,Z6y,Z6z,Z70,Z71,Z72,Z73,Z74,Z75,Z76,Z77,Z78,Z79,Z7a,Z7b,Z7c,Z7d,Z7e,Z7f,Z7g,Z7h,Z7i,Z7j,Z7k,Z7l,Z7m,Z7n,Z7o,Z7p,Z7q,Z7r,Z7s,Z7t,Z7u,Z7v,Z7w,Z7x,Z7y,Z7z,Z80,Z81,Z82,Z83,Z84,Z85,Z86,Z87,Z88,Z89,Z8a,Z8b,Z8c,Z8d,Z8e,Z8f,Z8g,Z8h,Z8i,Z8j,Z8k,Z8l,Z8m,Z8n,Z8o,Z8p], dl⟩ wo) :
    cd.wp Tryz.prog Q ⟨#[Z0,Z1,.pointer (some ⟨ba, 0, none⟩),.pointer (some ⟨bb, 0, none⟩),Z4,Z5,.pointer (some ⟨br, 0, none⟩),.int .i64 i,.int .i64 k,Z9,Za,Zb,Zc,Zd,Ze,Zf,Zg,Zh,Zi,Zj,Zk,Zl,Zm,Zn,Zo,Zp,Zq,Zr,Zs,Zt,Zu,Zv,Zw,Zx,Zy,Zz,Z10,Z11,Z12,Z13,Z14,Z15,Z16,Z17,Z18,Z19,Z1a,Z1b,Z1c,Z1d,Z1e,Z1f,Z1g,Z1h,Z1i,Z1j,Z1k,Z1l,Z1m,Z1n,Z1o,Z1p,Z1q,Z1r,Z1s,Z1t,Z1u,Z1v,Z1w,Z1x,Z1y,Z1z,Z20,Z21,Z22,Z23,Z24,Z25,Z26,Z27,Z28,Z29,Z2a,Z2b,Z2c,Z2d,Z2e,Z2f,Z2g,Z2h,Z2i,Z2j,Z2k,Z2l,Z2m,Z2n,Z2o,Z2p,Z2q,Z2r,Z2s,Z2t,Z2u,Z2v,Z2w,Z2x,Z2y,Z2z,Z30,Z31,Z32,Z33,Z34,Z35,Z36,Z37,Z38,Z39,Z3a,Z3b,Z3c,Z3d,Z3e,Z3f,Z3g,Z3h,Z3i,Z3j,Z3k,Z3l,Z3m,Z3n,Z3o,Z3p,Z3q,Z3r,Z3s,Z3t,Z3u,Z3v,Z3w,Z3x,Z3y,Z3z,Z40,Z41,Z42,Z43,Z44,Z45,Z46,Z47,Z48,Z49,Z4a,Z4b,Z4c,Z4d,Z4e,Z4f,Z4g,Z4h,Z4i,Z4j,Z4k,Z4l,Z4m,Z4n,Z4o,Z4p,Z4q,Z4r,Z4s,Z4t,Z4u,Z4v,Z4w,Z4x,Z4y,Z4z,Z50,Z51,Z52,Z53,Z54,Z55,Z56,Z57,Z58,Z59,Z5a,Z5b,Z5c,Z5d,Z5e,Z5f,Z5g,Z5h,Z5i,Z5j,Z5k,Z5l,Z5m,Z5n,Z5o,Z5p,Z5q,Z5r,Z5s,Z5t,Z5u,Z5v,Z5w,Z5x,Z5y,Z5z,Z60,Z61,Z62,Z63,Z64,Z65,Z66,Z67,Z68,Z69,Z6a,Z6b,Z6c,Z6d,Z6e,Z6f,Z6g,Z6h,Z6i,Z6j,Z6k,Z6l,Z6m,Z6n,Z6o,Z6p,Z6q,Z6r,Z6s,Z6t,Z6u,Z6v,Z6w,Z6x,Z6y,Z6z,Z70,Z71,Z72,Z73,Z74,Z75,Z76,Z77,Z78,Z79,Z7a,Z7b,Z7c,Z7d,Z7e,Z7f,Z7g,Z7h,Z7i,Z7j,Z7k,Z7l,Z7m,Z7n,Z7o,Z7p,Z7q,Z7r,Z7s,Z7t,Z7u,Z7v,Z7w,Z7x,Z7y,Z7z,Z80,Z81,Z82,Z83,Z84,Z85,Z86,Z87,Z88,Z89,Z8a,Z8b,Z8c,Z8d,Z8e,Z8f,Z8g,Z8h,Z8i,Z8j,Z8k,Z8l,Z8m,Z8n,Z8o,Z8p], dl⟩ X := by
  rw [show (Tryz.f29.body.bind (regionOf 7)) = some (Code.region 7 _ true) from rfl] at hcd
  obtain rfl := Option.some.inj hcd
  clear hcd
  dsimp only at hQ ⊢
  obtain ⟨p0, p1, p2⟩ := xa.c3
  obtain ⟨q0, q1, q2⟩ := xb.c3
  have la0 := xa.lt
  have lb0 := xb.lt
  have z0 : (0 : Int) ≤ (i : Int) := by omega
  have z1 : (0 : Int) ≤ (k : Int) := by omega
  by_cases hi : i < a1.length
  case neg =>
    have HF := Lib.hid (M.takeB_hi (f := M.ls5) (b := b1) (k := k) hi)
    have qe : ((i : Int) == (a1.length : Int)) = true := by simp; omega
    have qe' : (i == a1.length) = true := by simp; omega
    clear hi hA hB
    refine wp_region_kept X.heap.size X (by kernel_rfl) (by kernel_rfl) (Below.refl _ _) ?_
    repeat (go_big_quiet_step (fail))
    refine wpQuiet_nil ?_
    rintro w5 ⟨⟨w5x, hb5⟩, hw5⟩
    dsimp only at hw5
    subst hw5
    exact hQ _ _ _ _ _ _ _ _ _ _ _ _ _ _ _ _ _ _ _ _ _ _ _ _ _ _ _ true HF.out.symm hb5
  have qe : ((i : Int) == (a1.length : Int)) = false := by simp; omega
  have qe' : (i == a1.length) = false := by simp; omega
  by_cases hk : k < b1.length
  case neg =>
    have HF := Lib.hid (M.takeB_no (f := M.ls5) hi hk)
    have qk : decide ((k : Int) < (b1.length : Int)) = false := decide_eq_false (by omega)
    have qk' : decide (k < b1.length) = false := decide_eq_false hk
    clear hi hk hA hB
    refine wp_region_kept X.heap.size X (by kernel_rfl) (by kernel_rfl) (Below.refl _ _) ?_
    repeat (go_big_quiet_step (fail))
    refine wpQuiet_nil ?_
    rintro w5 ⟨⟨w5x, hb5⟩, hw5⟩
    dsimp only at hw5
    subst hw5
    exact hQ _ _ _ _ _ _ _ _ _ _ _ _ _ _ _ _ _ _ _ _ _ _ _ _ _ _ _ false HF.out.symm hb5
  have qk : decide ((k : Int) < (b1.length : Int)) = true := decide_eq_true (by omega)
  have qk' : decide (k < b1.length) = true := decide_eq_true hk
  have g1 : (k : Int) < (b1.length : Int) := by omega
  have g2 : (i : Int) < (a1.length : Int) := by omega
  obtain ⟨la, hla, laB, ex0, hq⟩ := hA.sp (by decide) hi
  have ex1 := hq 1 (by decide) (by decide)
  have ex2 := hq 2 (by decide) (by decide)
  have ex3 := hq 3 (by decide) (by decide)
  have ex4 := hq 4 (by decide) (by decide)
  clear hq
  obtain ⟨lb, hlb, lbB, ey0, hq⟩ := hB.sp (by decide) hk
  have ey1 := hq 1 (by decide) (by decide)
  have ey2 := hq 2 (by decide) (by decide)
  have ey3 := hq 3 (by decide) (by decide)
  have ey4 := hq 4 (by decide) (by decide)
  clear hq
  have HT := Lib.hid (M.takeB_at (f := M.ls5) hi hk)
  obtain ⟨x, hx⟩ : ∃ x, a1[i] = x := ⟨_, rfl⟩
  rw [hx] at ex0 ex1 ex2 ex3 ex4 HT
  clear hx
  replace ex0 : X.cell? (la.add (i * 5)) = some (.int .i64 x.a) := ex0
  replace ex1 : X.cell? (⟨(la.add (i * 5)).block, (la.add (i * 5)).off + 1, none⟩) = some (.int .i64 x.b) := ex1
  replace ex2 : X.cell? (⟨(la.add (i * 5)).block, (la.add (i * 5)).off + 2, none⟩) = some (.int .i64 x.c) := ex2
  replace ex3 : X.cell? (⟨(la.add (i * 5)).block, (la.add (i * 5)).off + 3, none⟩) = some (.int .i64 x.d) := ex3
  replace ex4 : X.cell? (⟨(la.add (i * 5)).block, (la.add (i * 5)).off + 4, none⟩) = some (.int .i64 x.e) := ex4
  obtain ⟨y, hy⟩ : ∃ x, b1[k] = x := ⟨_, rfl⟩
  rw [hy] at ey0 ey1 ey2 ey3 ey4 HT
  clear hy
  replace ey0 : X.cell? (lb.add (k * 5)) = some (.int .i64 y.a) := ey0
  replace ey1 : X.cell? (⟨(lb.add (k * 5)).block, (lb.add (k * 5)).off + 1, none⟩) = some (.int .i64 y.b) := ey1
  replace ey2 : X.cell? (⟨(lb.add (k * 5)).block, (lb.add (k * 5)).off + 2, none⟩) = some (.int .i64 y.c) := ey2
  replace ey3 : X.cell? (⟨(lb.add (k * 5)).block, (lb.add (k * 5)).off + 3, none⟩) = some (.int .i64 y.d) := ey3
  replace ey4 : X.cell? (⟨(lb.add (k * 5)).block, (lb.add (k * 5)).off + 4, none⟩) = some (.int .i64 y.e) := ey4
  have hel : ∀ wx, Below X.heap.size X wx → wx.cell? ⟨ba, 0, none⟩ = some (.slice XA a1.length xc) ∧ wx.cell? ⟨bb, 0, none⟩ = some (.slice XB b1.length xd) ∧ wx.cell? (la.add (i * 5)) = some (.int .i64 x.a) ∧ wx.cell? (⟨(la.add (i * 5)).block, (la.add (i * 5)).off + 1, none⟩) = some (.int .i64 x.b) ∧ wx.cell? (⟨(la.add (i * 5)).block, (la.add (i * 5)).off + 2, none⟩) = some (.int .i64 x.c) ∧ wx.cell? (⟨(la.add (i * 5)).block, (la.add (i * 5)).off + 3, none⟩) = some (.int .i64 x.d) ∧ wx.cell? (⟨(la.add (i * 5)).block, (la.add (i * 5)).off + 4, none⟩) = some (.int .i64 x.e) ∧ wx.cell? (lb.add (k * 5)) = some (.int .i64 y.a) ∧ wx.cell? (⟨(lb.add (k * 5)).block, (lb.add (k * 5)).off + 1, none⟩) = some (.int .i64 y.b) ∧ wx.cell? (⟨(lb.add (k * 5)).block, (lb.add (k * 5)).off + 2, none⟩) = some (.int .i64 y.c) ∧ wx.cell? (⟨(lb.add (k * 5)).block, (lb.add (k * 5)).off + 3, none⟩) = some (.int .i64 y.d) ∧ wx.cell? (⟨(lb.add (k * 5)).block, (lb.add (k * 5)).off + 4, none⟩) = some (.int .i64 y.e) := fun wx hbx => by
    exact ⟨(xa.below hbx).c3.1, (xb.below hbx).c3.1, (hbx.cell (p := la.add (i * 5)) laB).trans ex0, (hbx.cell (p := ⟨(la.add (i * 5)).block, (la.add (i * 5)).off + 1, none⟩) laB).trans ex1, (hbx.cell (p := ⟨(la.add (i * 5)).block, (la.add (i * 5)).off + 2, none⟩) laB).trans ex2, (hbx.cell (p := ⟨(la.add (i * 5)).block, (la.add (i * 5)).off + 3, none⟩) laB).trans ex3, (hbx.cell (p := ⟨(la.add (i * 5)).block, (la.add (i * 5)).off + 4, none⟩) laB).trans ex4, (hbx.cell (p := lb.add (k * 5)) lbB).trans ey0, (hbx.cell (p := ⟨(lb.add (k * 5)).block, (lb.add (k * 5)).off + 1, none⟩) lbB).trans ey1, (hbx.cell (p := ⟨(lb.add (k * 5)).block, (lb.add (k * 5)).off + 2, none⟩) lbB).trans ey2, (hbx.cell (p := ⟨(lb.add (k * 5)).block, (lb.add (k * 5)).off + 3, none⟩) lbB).trans ey3, (hbx.cell (p := ⟨(lb.add (k * 5)).block, (lb.add (k * 5)).off + 4, none⟩) lbB).trans ey4⟩
  have hc : Below X.heap.size X X.drew := (Below.refl _ _).drew
  have h5 := hel _ hc
  have h6 := hel _ (Below.refl _ _)
  have hls : ∃ r, M.lessI y.l x.l = r := ⟨_, rfl⟩
  obtain ⟨r, hls⟩ := hls
  rw [show M.ls5 y x = M.lessI y.l x.l from rfl, hls] at HT
  have kX : Hid (∀ wx, Calls Tryz.prog 60 #[p5v x] wx (RetS 1 icell wx x.l)) := Lib.hid (fun wx => pair16_any x wx)
  have kY : Hid (∀ wx, Calls Tryz.prog 60 #[p5v y] wx (RetS 1 icell wx y.l)) := Lib.hid (fun wx => pair16_any y wx)
  have kL : Hid (∀ wx PA QA pc qc, Sl 1 icell wx wx.heap.size PA y.l → Sl 1 icell wx wx.heap.size QA x.l → Calls Tryz.prog 59 #[.slice PA y.l.length pc, .slice QA x.l.length qc] wx fun e w' => e = .returned (.bool r) ∧ Below wx.heap.size wx w') := Lib.hid (fun wx PA QA pc qc h1 h2 => by rw [← hls]; exact less16_any PA QA pc qc y.l x.l wx h1 h2 rfl (by show 5 ≤ 1000; decide))
  clear hls hi hk hA hB
  subst hla
  subst hlb
  go_region_held3 (fun w' => w'.cell? ⟨ba, 0, none⟩ = some (.slice (some la) a1.length xc) ∧ w'.cell? ⟨bb, 0, none⟩ = some (.slice (some lb) b1.length xd) ∧ w'.cell? (la.add (i * 5)) = some (.int .i64 x.a) ∧ w'.cell? (⟨(la.add (i * 5)).block, (la.add (i * 5)).off + 1, none⟩) = some (.int .i64 x.b) ∧ w'.cell? (⟨(la.add (i * 5)).block, (la.add (i * 5)).off + 2, none⟩) = some (.int .i64 x.c) ∧ w'.cell? (⟨(la.add (i * 5)).block, (la.add (i * 5)).off + 3, none⟩) = some (.int .i64 x.d) ∧ w'.cell? (⟨(la.add (i * 5)).block, (la.add (i * 5)).off + 4, none⟩) = some (.int .i64 x.e) ∧ w'.cell? (lb.add (k * 5)) = some (.int .i64 y.a) ∧ w'.cell? (⟨(lb.add (k * 5)).block, (lb.add (k * 5)).off + 1, none⟩) = some (.int .i64 y.b) ∧ w'.cell? (⟨(lb.add (k * 5)).block, (lb.add (k * 5)).off + 2, none⟩) = some (.int .i64 y.c) ∧ w'.cell? (⟨(lb.add (k * 5)).block, (lb.add (k * 5)).off + 3, none⟩) = some (.int .i64 y.d) ∧ w'.cell? (⟨(lb.add (k * 5)).block, (lb.add (k * 5)).off + 4, none⟩) = some (.int .i64 y.e)) (first | with_reducible exact h5 | with_reducible exact h6 | with_reducible exact hel _ hc)
    (first
      | (go_at_call 60; ((with_reducible refine (kY.out _).mono ?_); rintro e wa ⟨PA, pc, rfl, SA, hba⟩; replace hc := hc.trans (hba.mono hc.size); clear hba))
      | (go_at_call 60; ((with_reducible refine (kX.out _).mono ?_); rintro e wb ⟨QA, qc, rfl, SB, hbb⟩; replace SA := (SA.below hbb).more hbb.size; replace hc := hc.trans (hbb.mono hc.size); clear hbb))
      | (go_at_call 59; ((with_reducible refine (kL.out _ PA QA pc qc SA SB).mono ?_); rintro e wd ⟨rfl, hbd⟩; replace hc := hc.trans (hbd.mono hc.size); clear hbd)))
  all_goals exact hQ _ _ _ _ _ _ _ _ _ _ _ _ _ _ _ _ _ _ _ _ _ _ _ _ _ _ _ r HT.out.symm hc
set_option maxHeartbeats 32000000 in
theorem j16_e0 {Q : Exit → Act → World → Prop} {cd : Code} {dl : List Deferred} {Z0 Z1 Z4 Z5 Z9 Za Zb Zc Zd Ze Zf Zg Zh Zi Zj Zk Zl Zm Zn Zo Zp Zq Zr Zs Zt Zu Zv Zw Zx Zy Zz Z10 Z11 Z12 Z13 Z14 Z15 Z16 Z17 Z18 Z19 Z1a Z1b Z1c Z1d Z1e Z1f Z1g Z1h Z1i Z1j Z1k Z1l Z1m Z1n Z1o Z1p Z1q Z1r Z1s Z1t Z1u Z1v Z1w Z1x Z1y Z1z Z20 Z21 Z22 Z23 Z24 Z25 Z26 Z27 Z28 Z29 Z2a Z2b Z2c Z2d Z2e Z2f Z2g Z2h Z2i Z2j Z2k Z2l Z2m Z2n Z2o Z2p Z2q Z2r Z2s Z2t Z2u Z2v Z2w Z2x Z2y Z2z Z30 Z31 Z32 Z33 Z34 Z35 Z36 Z37 Z38 Z39 Z3a Z3b Z3c Z3d Z3e Z3f Z3g Z3h Z3i Z3j Z3k Z3l Z3m Z3n Z3o Z3p Z3q Z3r Z3s Z3t Z3u Z3v Z3w Z3x Z3y Z3z Z40 Z41 Z42 Z43 Z44 Z45 Z46 Z47 Z48 Z49 Z4a Z4b Z4c Z4d Z4e Z4f Z4g Z4h Z4i Z4j Z4k Z4l Z4m Z4n Z4o Z4p Z4q Z4r Z4s Z4t Z4u Z4v Z4w Z4x Z4y Z4z Z50 Z51 Z52 Z53 Z54 Z55 Z56 Z57 Z58 Z59 Z5a Z5b Z5c Z5d Z5e Z5f Z5g Z5h Z5i Z5j Z5k Z5l Z5m Z5n Z5o Z5p Z5q Z5r Z5s Z5t Z5u Z5v Z5w Z5x Z5y Z5z Z60 Z61 Z62 Z63 Z64 Z65 Z66 Z67 Z68 Z69 Z6a Z6b Z6c Z6d Z6e Z6f Z6g Z6h Z6i Z6j Z6k Z6l Z6m Z6n Z6o Z6p Z6q Z6r Z6s Z6t Z6u Z6v Z6w Z6x Z6y Z6z Z70 Z71 Z72 Z73 Z74 Z75 Z76 Z77 Z78 Z79 Z7a Z7b Z7c Z7d Z7e Z7f Z7g Z7h Z7i Z7j Z7k Z7l Z7m Z7n Z7o Z7p Z7q Z7r Z7s Z7t Z7u Z7v Z7w Z7x Z7y Z7z Z80 Z81 Z82 Z83 Z84 Z85 Z86 Z87 Z88 Z89 Z8a Z8b Z8c Z8d Z8e Z8f Z8g Z8h Z8i Z8j Z8k Z8l Z8m Z8n Z8o Z8p : Value} (XA YA ZA XB YB ZB : Option Addr) (xc yc zc xd yd zd : Nat) (a1 a2 : List P5) (a3 : List P4) (b1 b2 : List P5) (b3 : List P4) (X : World) (ba bb br i k : Nat) (xa : Box X ba #[.slice XA a1.length xc, .slice YA a2.length yc, .slice ZA a3.length zc] 30) (xb : Box X bb #[.slice XB b1.length xd, .slice YB b2.length yd, .slice ZB b3.length zd] 30) (hA : Sl 5 p5cell X X.heap.size XA a1) (hB : Sl 5 p5cell X X.heap.size XB b1) (hi : i < a1.length) (hcd : (Tryz.f29.body.bind (regionOf 9)) = some cd)
    (hQ : ∀ (y83 y84 y85 y86 y87 y88 y89 y90 y91 y92 y93 y94 y95 y96 y97 y98 y99 : Value) (wo : World) (r : Bool), r = M.takeE a1 b1 i k → Below X.heap.size X wo → Q .normal ⟨#[Z0,Z1,.pointer (some ⟨ba, 0, none⟩),.pointer (some ⟨bb, 0, none⟩),Z4,Z5,.pointer (some ⟨br, 0, none⟩),.int .i64 i,.int .i64 k,Z9,Za,Zb,Zc,Zd,Ze,Zf,Zg,Zh,Zi,Zj,Zk,Zl,Zm,Zn,Zo,Zp,Zq,Zr,Zs,Zt,Zu,Zv,Zw,Zx,Zy,Zz,Z10,Z11,Z12,Z13,Z14,Z15,Z16,Z17,Z18,Z19,Z1a,Z1b,Z1c,Z1d,Z1e,Z1f,Z1g,Z1h,Z1i,Z1j,Z1k,Z1l,Z1m,Z1n,Z1o,Z1p,Z1q,Z1r,Z1s,Z1t,Z1u,Z1v,Z1w,Z1x,Z1y,Z1z,Z20,Z21,Z22,Z23,Z24,Z25,Z26,Z27,Z28,Z29,.bool r,y83,y84,y85,y86,y87,y88,y89,y90,y91,y92,y93,y94,y95,y96,y97,y98,y99,.bool r,Z2t,Z2u,Z2v,Z2w,Z2x,Z2y,Z2z,Z30,Z31,Z32,Z33,Z34,Z35,Z36,Z37,Z38,Z39,Z3a,Z3b,Z3c,Z3d,Z3e,Z3f,Z3g,Z3h,Z3i,Z3j,Z3k,Z3l,Z3m,Z3n,Z3o,Z3p,Z3q,Z3r,Z3s,Z3t,Z3u,Z3v,Z3w,Z3x,Z3y,Z3z,Z40,Z41,Z42,Z43,Z44,Z45,Z46,Z47,Z48,Z49,Z4a,Z4b,Z4c,Z4d,Z4e,Z4f,Z4g,Z4h,Z4i,Z4j,Z4k,Z4l,Z4m,Z4n,Z4o,Z4p,Z4q,Z4r,Z4s,Z4t,Z4u,Z4v,Z4w,Z4x,Z4y,Z4z,Z50,Z51,Z52,Z53,Z54,Z55,Z56,Z57,Z58,Z59,Z5a,Z5b,Z5c,Z5d,Z5e,Z5f,Z5g,Z5h,Z5i,Z5j,Z5k,Z5l,Z5m,Z5n,Z5o,Z5p,Z5q,Z5r,Z5s,Z5t,Z5u,Z5v,Z5w,Z5x,Z5y,Z5z,Z60,Z61,Z62,Z63,Z64,Z65,Z66,Z67,Z68,Z69,Z6a,Z6b,Z6c,Z6d,Z6e,Z6f,Z6g,Z6h,Z6i,Z6j,Z6k,Z6l,Z6m,Z6n,Z6o,Z6p,Z6q,Z6r,Z6s,Z6t,Z6u,Z6v,Z6w,Z6x,Z6y,Z6z,Z70,Z71,Z72,Z73,Z74,Z75,Z76,Z77,Z78,Z79,Z7a,Z7b,Z7c,Z7d,Z7e,Z7f,Z7g,Z7h,Z7i,Z7j,Z7k,Z7l,Z7m,Z7n,Z7o,Z7p,Z7q,Z7r,Z7s,Z7t,Z7u,Z7v,Z7w,Z7x,Z7y,Z7z,Z80,Z81,Z82,Z83,Z84,Z85,Z86,Z87,Z88,Z89,Z8a,Z8b,Z8c,Z8d,Z8e,Z8f,Z8g,Z8h,Z8i,Z8j,Z8k,Z8l,Z8m,Z8n,Z8o,Z8p], dl⟩ wo) :
    cd.wp Tryz.prog Q ⟨#[Z0,Z1,.pointer (some ⟨ba, 0, none⟩),.pointer (some ⟨bb, 0, none⟩),Z4,Z5,.pointer (some ⟨br, 0, none⟩),.int .i64 i,.int .i64 k,Z9,Za,Zb,Zc,Zd,Ze,Zf,Zg,Zh,Zi,Zj,Zk,Zl,Zm,Zn,Zo,Zp,Zq,Zr,Zs,Zt,Zu,Zv,Zw,Zx,Zy,Zz,Z10,Z11,Z12,Z13,Z14,Z15,Z16,Z17,Z18,Z19,Z1a,Z1b,Z1c,Z1d,Z1e,Z1f,Z1g,Z1h,Z1i,Z1j,Z1k,Z1l,Z1m,Z1n,Z1o,Z1p,Z1q,Z1r,Z1s,Z1t,Z1u,Z1v,Z1w,Z1x,Z1y,Z1z,Z20,Z21,Z22,Z23,Z24,Z25,Z26,Z27,Z28,Z29,Z2a,Z2b,Z2c,Z2d,Z2e,Z2f,Z2g,Z2h,Z2i,Z2j,Z2k,Z2l,Z2m,Z2n,Z2o,Z2p,Z2q,Z2r,Z2s,Z2t,Z2u,Z2v,Z2w,Z2x,Z2y,Z2z,Z30,Z31,Z32,Z33,Z34,Z35,Z36,Z37,Z38,Z39,Z3a,Z3b,Z3c,Z3d,Z3e,Z3f,Z3g,Z3h,Z3i,Z3j,Z3k,Z3l,Z3m,Z3n,Z3o,Z3p,Z3q,Z3r,Z3s,Z3t,Z3u,Z3v,Z3w,Z3x,Z3y,Z3z,Z40,Z41,Z42,Z43,Z44,Z45,Z46,Z47,Z48,Z49,Z4a,Z4b,Z4c,Z4d,Z4e,Z4f,Z4g,Z4h,Z4i,Z4j,Z4k,Z4l,Z4m,Z4n,Z4o,Z4p,Z4q,Z4r,Z4s,Z4t,Z4u,Z4v,Z4w,Z4x,Z4y,Z4z,Z50,Z51,Z52,Z53,Z54,Z55,Z56,Z57,Z58,Z59,Z5a,Z5b,Z5c,Z5d,Z5e,Z5f,Z5g,Z5h,Z5i,Z5j,Z5k,Z5l,Z5m,Z5n,Z5o,Z5p,Z5q,Z5r,Z5s,Z5t,Z5u,Z5v,Z5w,Z5x,Z5y,Z5z,Z60,Z61,Z62,Z63,Z64,Z65,Z66,Z67,Z68,Z69,Z6a,Z6b,Z6c,Z6d,Z6e,Z6f,Z6g,Z6h,Z6i,Z6j,Z6k,Z6l,Z6m,Z6n,Z6o,Z6p,Z6q,Z6r,Z6s,Z6t,Z6u,Z6v,Z6w,Z6x,Z6y,Z6z,Z70,Z71,Z72,Z73,Z74,Z75,Z76,Z77,Z78,Z79,Z7a,Z7b,Z7c,Z7d,Z7e,Z7f,Z7g,Z7h,Z7i,Z7j,Z7k,Z7l,Z7m,Z7n,Z7o,Z7p,Z7q,Z7r,Z7s,Z7t,Z7u,Z7v,Z7w,Z7x,Z7y,Z7z,Z80,Z81,Z82,Z83,Z84,Z85,Z86,Z87,Z88,Z89,Z8a,Z8b,Z8c,Z8d,Z8e,Z8f,Z8g,Z8h,Z8i,Z8j,Z8k,Z8l,Z8m,Z8n,Z8o,Z8p], dl⟩ X := by
  rw [show (Tryz.f29.body.bind (regionOf 9)) = some (Code.region 9 _ true) from rfl] at hcd
  obtain rfl := Option.some.inj hcd
  clear hcd
  dsimp only at hQ ⊢
  obtain ⟨p0, p1, p2⟩ := xa.c3
  obtain ⟨q0, q1, q2⟩ := xb.c3
  have la0 := xa.lt
  have lb0 := xb.lt
  have z0 : (0 : Int) ≤ (i : Int) := by omega
  have z1 : (0 : Int) ≤ (k : Int) := by omega
  have g2 : (i : Int) < (a1.length : Int) := by omega
  by_cases hk : k < b1.length
  case neg =>
    have HF := Lib.hid (M.takeE_no (a := a1) (i := i) hk)
    have qk : decide ((k : Int) < (b1.length : Int)) = false := decide_eq_false (by omega)
    have qk' : decide (k < b1.length) = false := decide_eq_false hk
    clear hk hA hB
    refine wp_region_kept X.heap.size X (by kernel_rfl) (by kernel_rfl) (Below.refl _ _) ?_
    repeat (go_big_quiet_step (fail))
    refine wpQuiet_nil ?_
    rintro w5 ⟨⟨w5x, hb5⟩, hw5⟩
    dsimp only at hw5
    subst hw5
    exact hQ _ _ _ _ _ _ _ _ _ _ _ _ _ _ _ _ _ _ false HF.out.symm hb5
  have qk : decide ((k : Int) < (b1.length : Int)) = true := decide_eq_true (by omega)
  have qk' : decide (k < b1.length) = true := decide_eq_true hk
  have g1 : (k : Int) < (b1.length : Int) := by omega
  obtain ⟨la, hla, laB, ex0, hq⟩ := hA.sp (by decide) hi
  have ex1 := hq 1 (by decide) (by decide)
  have ex2 := hq 2 (by decide) (by decide)
  have ex3 := hq 3 (by decide) (by decide)
  have ex4 := hq 4 (by decide) (by decide)
  clear hq
  obtain ⟨lb, hlb, lbB, ey0, hq⟩ := hB.sp (by decide) hk
  have ey1 := hq 1 (by decide) (by decide)
  have ey2 := hq 2 (by decide) (by decide)
  have ey3 := hq 3 (by decide) (by decide)
  have ey4 := hq 4 (by decide) (by decide)
  clear hq
  have HT := Lib.hid (M.takeE_at hi hk)
  obtain ⟨x, hx⟩ : ∃ x, a1[i] = x := ⟨_, rfl⟩
  rw [hx] at ex0 ex1 ex2 ex3 ex4 HT
  clear hx
  replace ex0 : X.cell? (la.add (i * 5)) = some (.int .i64 x.a) := ex0
  replace ex1 : X.cell? (⟨(la.add (i * 5)).block, (la.add (i * 5)).off + 1, none⟩) = some (.int .i64 x.b) := ex1
  replace ex2 : X.cell? (⟨(la.add (i * 5)).block, (la.add (i * 5)).off + 2, none⟩) = some (.int .i64 x.c) := ex2
  replace ex3 : X.cell? (⟨(la.add (i * 5)).block, (la.add (i * 5)).off + 3, none⟩) = some (.int .i64 x.d) := ex3
  replace ex4 : X.cell? (⟨(la.add (i * 5)).block, (la.add (i * 5)).off + 4, none⟩) = some (.int .i64 x.e) := ex4
  obtain ⟨y, hy⟩ : ∃ x, b1[k] = x := ⟨_, rfl⟩
  rw [hy] at ey0 ey1 ey2 ey3 ey4 HT
  clear hy
  replace ey0 : X.cell? (lb.add (k * 5)) = some (.int .i64 y.a) := ey0
  replace ey1 : X.cell? (⟨(lb.add (k * 5)).block, (lb.add (k * 5)).off + 1, none⟩) = some (.int .i64 y.b) := ey1
  replace ey2 : X.cell? (⟨(lb.add (k * 5)).block, (lb.add (k * 5)).off + 2, none⟩) = some (.int .i64 y.c) := ey2
  replace ey3 : X.cell? (⟨(lb.add (k * 5)).block, (lb.add (k * 5)).off + 3, none⟩) = some (.int .i64 y.d) := ey3
  replace ey4 : X.cell? (⟨(lb.add (k * 5)).block, (lb.add (k * 5)).off + 4, none⟩) = some (.int .i64 y.e) := ey4
  clear hi hk hA hB
  subst hla
  subst hlb
  obtain ⟨u0, u1, u2, u3, u4⟩ := x
  obtain ⟨t0, t1, t2, t3, t4⟩ := y
  dsimp only at ex0 ey0 ex1 ey1 ex2 ey2 ex3 ey3 ex4 ey4
  by_cases h0 : u0 = t0
  case neg =>
    have HF := Lib.hid (HT.out.trans (decide_eq_false (fun e => h0 (by injection e))))
    refine wp_region_kept X.heap.size X (by kernel_rfl) (by kernel_rfl) (Below.refl _ _) ?_
    repeat (go_big_quiet_step (fail))
    refine wpQuiet_nil ?_
    rintro w5 ⟨⟨w5x, hb5⟩, hw5⟩
    dsimp only at hw5
    subst hw5
    exact hQ _ _ _ _ _ _ _ _ _ _ _ _ _ _ _ _ _ _ false HF.out.symm hb5
  subst h0
  by_cases h1 : u1 = t1
  case neg =>
    have HF := Lib.hid (HT.out.trans (decide_eq_false (fun e => h1 (by injection e))))
    refine wp_region_kept X.heap.size X (by kernel_rfl) (by kernel_rfl) (Below.refl _ _) ?_
    repeat (go_big_quiet_step (fail))
    refine wpQuiet_nil ?_
    rintro w5 ⟨⟨w5x, hb5⟩, hw5⟩
    dsimp only at hw5
    subst hw5
    exact hQ _ _ _ _ _ _ _ _ _ _ _ _ _ _ _ _ _ _ false HF.out.symm hb5
  subst h1
  by_cases h2 : u2 = t2
  case neg =>
    have HF := Lib.hid (HT.out.trans (decide_eq_false (fun e => h2 (by injection e))))
    refine wp_region_kept X.heap.size X (by kernel_rfl) (by kernel_rfl) (Below.refl _ _) ?_
    repeat (go_big_quiet_step (fail))
    refine wpQuiet_nil ?_
    rintro w5 ⟨⟨w5x, hb5⟩, hw5⟩
    dsimp only at hw5
    subst hw5
    exact hQ _ _ _ _ _ _ _ _ _ _ _ _ _ _ _ _ _ _ false HF.out.symm hb5
  subst h2
  by_cases h3 : u3 = t3
  case neg =>
    have HF := Lib.hid (HT.out.trans (decide_eq_false (fun e => h3 (by injection e))))
    refine wp_region_kept X.heap.size X (by kernel_rfl) (by kernel_rfl) (Below.refl _ _) ?_
    repeat (go_big_quiet_step (fail))
    refine wpQuiet_nil ?_
    rintro w5 ⟨⟨w5x, hb5⟩, hw5⟩
    dsimp only at hw5
    subst hw5
    exact hQ _ _ _ _ _ _ _ _ _ _ _ _ _ _ _ _ _ _ false HF.out.symm hb5
  subst h3
  by_cases h4 : u4 = t4
  case neg =>
    have HF := Lib.hid (HT.out.trans (decide_eq_false (fun e => h4 (by injection e))))
    refine wp_region_kept X.heap.size X (by kernel_rfl) (by kernel_rfl) (Below.refl _ _) ?_
    repeat (go_big_quiet_step (fail))
    refine wpQuiet_nil ?_
    rintro w5 ⟨⟨w5x, hb5⟩, hw5⟩
    dsimp only at hw5
    subst hw5
    exact hQ _ _ _ _ _ _ _ _ _ _ _ _ _ _ _ _ _ _ false HF.out.symm hb5
  subst h4
  have HF := Lib.hid (HT.out.trans (decide_eq_true rfl))
  refine wp_region_kept X.heap.size X (by kernel_rfl) (by kernel_rfl) (Below.refl _ _) ?_
  repeat (go_big_quiet_step (fail))
  refine wpQuiet_nil ?_
  rintro w5 ⟨⟨w5x, hb5⟩, hw5⟩
  dsimp only at hw5
  subst hw5
  exact hQ _ _ _ _ _ _ _ _ _ _ _ _ _ _ _ _ _ _ true HF.out.symm hb5
set_option maxHeartbeats 32000000 in
theorem j16_b0 {Q : Exit → Act → World → Prop} {cd : Code} {dl : List Deferred} {Z0 Z1 Z4 Z5 Z9 Za Zb Zc Zd Ze Zf Zg Zh Zi Zj Zk Zl Zm Zn Zo Zp Zq Zr Zs Zt Zu Zv Zw Zx Zy Zz Z10 Z11 Z12 Z13 Z14 Z15 Z16 Z17 Z18 Z19 Z1a Z1b Z1c Z1d Z1e Z1f Z1g Z1h Z1i Z1j Z1k Z1l Z1m Z1n Z1o Z1p Z1q Z1r Z1s Z1t Z1u Z1v Z1w Z1x Z1y Z1z Z20 Z21 Z22 Z23 Z24 Z25 Z26 Z27 Z28 Z29 Z2a Z2b Z2c Z2d Z2e Z2f Z2g Z2h Z2i Z2j Z2k Z2l Z2m Z2n Z2o Z2p Z2q Z2r Z2s Z2t Z2u Z2v Z2w Z2x Z2y Z2z Z30 Z31 Z32 Z33 Z34 Z35 Z36 Z37 Z38 Z39 Z3a Z3b Z3c Z3d Z3e Z3f Z3g Z3h Z3i Z3j Z3k Z3l Z3m Z3n Z3o Z3p Z3q Z3r Z3s Z3t Z3u Z3v Z3w Z3x Z3y Z3z Z40 Z41 Z42 Z43 Z44 Z45 Z46 Z47 Z48 Z49 Z4a Z4b Z4c Z4d Z4e Z4f Z4g Z4h Z4i Z4j Z4k Z4l Z4m Z4n Z4o Z4p Z4q Z4r Z4s Z4t Z4u Z4v Z4w Z4x Z4y Z4z Z50 Z51 Z52 Z53 Z54 Z55 Z56 Z57 Z58 Z59 Z5a Z5b Z5c Z5d Z5e Z5f Z5g Z5h Z5i Z5j Z5k Z5l Z5m Z5n Z5o Z5p Z5q Z5r Z5s Z5t Z5u Z5v Z5w Z5x Z5y Z5z Z60 Z61 Z62 Z63 Z64 Z65 Z66 Z67 Z68 Z69 Z6a Z6b Z6c Z6d Z6e Z6f Z6g Z6h Z6i Z6j Z6k Z6l Z6m Z6n Z6o Z6p Z6q Z6r Z6s Z6t Z6u Z6v Z6w Z6x Z6y Z6z Z70 Z71 Z72 Z73 Z74 Z75 Z76 Z77 Z78 Z79 Z7a Z7b Z7c Z7d Z7e Z7f Z7g Z7h Z7i Z7j Z7k Z7l Z7m Z7n Z7o Z7p Z7q Z7r Z7s Z7t Z7u Z7v Z7w Z7x Z7y Z7z Z80 Z81 Z82 Z83 Z84 Z85 Z86 Z87 Z88 Z89 Z8a Z8b Z8c Z8d Z8e Z8f Z8g Z8h Z8i Z8j Z8k Z8l Z8m Z8n Z8o Z8p : Value} (XA YA ZA XB YB ZB : Option Addr) (xc yc zc xd yd zd : Nat) (a1 a2 : List P5) (a3 : List P4) (b1 b2 : List P5) (b3 : List P4) (X : World) (ba bb br i k : Nat) (xa : Box X ba #[.slice XA a1.length xc, .slice YA a2.length yc, .slice ZA a3.length zc] 30) (xb : Box X bb #[.slice XB b1.length xd, .slice YB b2.length yd, .slice ZB b3.length zd] 30) (W0 : World) (v1 v2 v3 : Value) (o1 o2 : List P5) (o3 : List P4) (rc : RC X (br + 1) br o1 o2 o3 v1 v2 v3) (hB : Below br W0 X) (hs : br + 1 ≤ X.heap.size) (hS : Sl 5 p5cell X X.heap.size XB b1) (hlt : k < b1.length) (hol : o1.length ≤ 15000) (hk : k ≤ 10000) (hcd : (Tryz.f29.body.bind (regionOf 8)) = some cd)
    (hQ : ∀ (y70 y71 y72 y73 y74 y75 y76 y77 y78 y79 y80 y81 : Value) (wo : World) (z8 : Value) (v' : Value), z8 = .int .i64 ((k + 1 : Nat) : Int) → RC wo (br + 1) br (o1 ++ [b1[k]]) o2 o3 v' v2 v3 → Below br W0 wo → br + 1 ≤ wo.heap.size → Q .normal ⟨#[Z0,Z1,.pointer (some ⟨ba, 0, none⟩),.pointer (some ⟨bb, 0, none⟩),Z4,Z5,.pointer (some ⟨br, 0, none⟩),.int .i64 i,z8,Z9,Za,Zb,Zc,Zd,Ze,Zf,Zg,Zh,Zi,Zj,Zk,Zl,Zm,Zn,Zo,Zp,Zq,Zr,Zs,Zt,Zu,Zv,Zw,Zx,Zy,Zz,Z10,Z11,Z12,Z13,Z14,Z15,Z16,Z17,Z18,Z19,Z1a,Z1b,Z1c,Z1d,Z1e,Z1f,Z1g,Z1h,Z1i,Z1j,Z1k,Z1l,Z1m,Z1n,Z1o,Z1p,Z1q,Z1r,Z1s,Z1t,Z1u,Z1v,Z1w,Z1x,y70,y71,y72,y73,y74,y75,y76,y77,y78,y79,y80,y81,Z2a,Z2b,Z2c,Z2d,Z2e,Z2f,Z2g,Z2h,Z2i,Z2j,Z2k,Z2l,Z2m,Z2n,Z2o,Z2p,Z2q,Z2r,Z2s,Z2t,Z2u,Z2v,Z2w,Z2x,Z2y,Z2z,Z30,Z31,Z32,Z33,Z34,Z35,Z36,Z37,Z38,Z39,Z3a,Z3b,Z3c,Z3d,Z3e,Z3f,Z3g,Z3h,Z3i,Z3j,Z3k,Z3l,Z3m,Z3n,Z3o,Z3p,Z3q,Z3r,Z3s,Z3t,Z3u,Z3v,Z3w,Z3x,Z3y,Z3z,Z40,Z41,Z42,Z43,Z44,Z45,Z46,Z47,Z48,Z49,Z4a,Z4b,Z4c,Z4d,Z4e,Z4f,Z4g,Z4h,Z4i,Z4j,Z4k,Z4l,Z4m,Z4n,Z4o,Z4p,Z4q,Z4r,Z4s,Z4t,Z4u,Z4v,Z4w,Z4x,Z4y,Z4z,Z50,Z51,Z52,Z53,Z54,Z55,Z56,Z57,Z58,Z59,Z5a,Z5b,Z5c,Z5d,Z5e,Z5f,Z5g,Z5h,Z5i,Z5j,Z5k,Z5l,Z5m,Z5n,Z5o,Z5p,Z5q,Z5r,Z5s,Z5t,Z5u,Z5v,Z5w,Z5x,Z5y,Z5z,Z60,Z61,Z62,Z63,Z64,Z65,Z66,Z67,Z68,Z69,Z6a,Z6b,Z6c,Z6d,Z6e,Z6f,Z6g,Z6h,Z6i,Z6j,Z6k,Z6l,Z6m,Z6n,Z6o,Z6p,Z6q,Z6r,Z6s,Z6t,Z6u,Z6v,Z6w,Z6x,Z6y,Z6z,Z70,Z71,Z72,Z73,Z74,Z75,Z76,Z77,Z78,Z79,Z7a,Z7b,Z7c,Z7d,Z7e,Z7f,Z7g,Z7h,Z7i,Z7j,Z7k,Z7l,Z7m,Z7n,Z7o,Z7p,Z7q,Z7r,Z7s,Z7t,Z7u,Z7v,Z7w,Z7x,Z7y,Z7z,Z80,Z81,Z82,Z83,Z84,Z85,Z86,Z87,Z88,Z89,Z8a,Z8b,Z8c,Z8d,Z8e,Z8f,Z8g,Z8h,Z8i,Z8j,Z8k,Z8l,Z8m,Z8n,Z8o,Z8p], dl⟩ wo) :
    cd.wp Tryz.prog Q ⟨#[Z0,Z1,.pointer (some ⟨ba, 0, none⟩),.pointer (some ⟨bb, 0, none⟩),Z4,Z5,.pointer (some ⟨br, 0, none⟩),.int .i64 i,.int .i64 k,Z9,Za,Zb,Zc,Zd,Ze,Zf,Zg,Zh,Zi,Zj,Zk,Zl,Zm,Zn,Zo,Zp,Zq,Zr,Zs,Zt,Zu,Zv,Zw,Zx,Zy,Zz,Z10,Z11,Z12,Z13,Z14,Z15,Z16,Z17,Z18,Z19,Z1a,Z1b,Z1c,Z1d,Z1e,Z1f,Z1g,Z1h,Z1i,Z1j,Z1k,Z1l,Z1m,Z1n,Z1o,Z1p,Z1q,Z1r,Z1s,Z1t,Z1u,Z1v,Z1w,Z1x,Z1y,Z1z,Z20,Z21,Z22,Z23,Z24,Z25,Z26,Z27,Z28,Z29,Z2a,Z2b,Z2c,Z2d,Z2e,Z2f,Z2g,Z2h,Z2i,Z2j,Z2k,Z2l,Z2m,Z2n,Z2o,Z2p,Z2q,Z2r,Z2s,Z2t,Z2u,Z2v,Z2w,Z2x,Z2y,Z2z,Z30,Z31,Z32,Z33,Z34,Z35,Z36,Z37,Z38,Z39,Z3a,Z3b,Z3c,Z3d,Z3e,Z3f,Z3g,Z3h,Z3i,Z3j,Z3k,Z3l,Z3m,Z3n,Z3o,Z3p,Z3q,Z3r,Z3s,Z3t,Z3u,Z3v,Z3w,Z3x,Z3y,Z3z,Z40,Z41,Z42,Z43,Z44,Z45,Z46,Z47,Z48,Z49,Z4a,Z4b,Z4c,Z4d,Z4e,Z4f,Z4g,Z4h,Z4i,Z4j,Z4k,Z4l,Z4m,Z4n,Z4o,Z4p,Z4q,Z4r,Z4s,Z4t,Z4u,Z4v,Z4w,Z4x,Z4y,Z4z,Z50,Z51,Z52,Z53,Z54,Z55,Z56,Z57,Z58,Z59,Z5a,Z5b,Z5c,Z5d,Z5e,Z5f,Z5g,Z5h,Z5i,Z5j,Z5k,Z5l,Z5m,Z5n,Z5o,Z5p,Z5q,Z5r,Z5s,Z5t,Z5u,Z5v,Z5w,Z5x,Z5y,Z5z,Z60,Z61,Z62,Z63,Z64,Z65,Z66,Z67,Z68,Z69,Z6a,Z6b,Z6c,Z6d,Z6e,Z6f,Z6g,Z6h,Z6i,Z6j,Z6k,Z6l,Z6m,Z6n,Z6o,Z6p,Z6q,Z6r,Z6s,Z6t,Z6u,Z6v,Z6w,Z6x,Z6y,Z6z,Z70,Z71,Z72,Z73,Z74,Z75,Z76,Z77,Z78,Z79,Z7a,Z7b,Z7c,Z7d,Z7e,Z7f,Z7g,Z7h,Z7i,Z7j,Z7k,Z7l,Z7m,Z7n,Z7o,Z7p,Z7q,Z7r,Z7s,Z7t,Z7u,Z7v,Z7w,Z7x,Z7y,Z7z,Z80,Z81,Z82,Z83,Z84,Z85,Z86,Z87,Z88,Z89,Z8a,Z8b,Z8c,Z8d,Z8e,Z8f,Z8g,Z8h,Z8i,Z8j,Z8k,Z8l,Z8m,Z8n,Z8o,Z8p], dl⟩ X := by
  rw [show (Tryz.f29.body.bind (regionOf 8)) = some (Code.region 8 _ true) from rfl] at hcd
  obtain rfl := Option.some.inj hcd
  clear hcd
  dsimp only at hQ ⊢
  obtain ⟨i0, hi0, hz0, hz1, hz2⟩ := info_parts pairInfo
  have Hi := Lib.hid hi0; have Hz0 := Lib.hid hz0; have Hz1 := Lib.hid hz1; have Hz2 := Lib.hid hz2
  clear hi0 hz0 hz1 hz2
  obtain ⟨p0, p1, p2⟩ := xa.c3
  obtain ⟨q0, q1, q2⟩ := xb.c3
  obtain ⟨y0, y1, y2⟩ := rc.box.c3
  have f0 := rc.box.frozen 0
  have la0 := xa.lt
  have lb0 := xb.lt
  have lr0 := rc.box.lt
  have z0 : (0 : Int) ≤ (k : Int) := by omega
  have g1 : (k : Int) < (b1.length : Int) := by omega
  obtain ⟨la, hla, laB, ex0, hq⟩ := hS.sp (by decide) hlt
  have ex1 := hq 1 (by decide) (by decide)
  have ex2 := hq 2 (by decide) (by decide)
  have ex3 := hq 3 (by decide) (by decide)
  have ex4 := hq 4 (by decide) (by decide)
  clear hq
  obtain ⟨x, hx⟩ : ∃ x, b1[k] = x := ⟨_, rfl⟩
  rw [hx] at ex0 ex1 ex2 ex3 ex4 hQ
  clear hx
  replace ex0 : X.cell? (la.add (k * 5)) = some (.int .i64 x.a) := ex0
  replace ex1 : X.cell? (⟨(la.add (k * 5)).block, (la.add (k * 5)).off + 1, none⟩) = some (.int .i64 x.b) := ex1
  replace ex2 : X.cell? (⟨(la.add (k * 5)).block, (la.add (k * 5)).off + 2, none⟩) = some (.int .i64 x.c) := ex2
  replace ex3 : X.cell? (⟨(la.add (k * 5)).block, (la.add (k * 5)).off + 3, none⟩) = some (.int .i64 x.d) := ex3
  replace ex4 : X.cell? (⟨(la.add (k * 5)).block, (la.add (k * 5)).off + 4, none⟩) = some (.int .i64 x.e) := ex4
  clear hS
  subst hla
  have rcd := rc.below (Below.refl X.heap.size X).drew
  have hBd := hB.drew
  have hs3 : br + 1 ≤ X.drew.heap.size := hs
  refine wp_region_noPanic ?_
  go_region_law ((refine step_pushR (w := X.drew) (w0 := W0) (cell := p5cell) (y := x) rfl _ _ _ rfl (br + 1) br 66 i0 _ 40 Tryz.underlying26 Hi.out Hz0.out Hz1.out Hz2.out rfl (by decide) v1 o1.length o1 (by simp [Act.eval]) rcd.p _ _ rfl _ (by simp [Act.eval]; rfl) (p5_one _) (by unfold maxLen; omega) (by omega) hs3 (by omega) hBd ?_; intro v' w' hown' hb' hg'; have b1 := rcd.box.grown hg' (rcd.box.ne_own (by decide) rcd.p); obtain ⟨y0, y1, y2⟩ := b1.c3; have f0 := b1.frozen 0; obtain ⟨g', cap', rfl⟩ := ownsRow_succ hown'))
  all_goals refine NoPanic.normal (hQ _ _ _ _ _ _ _ _ _ _ _ _ _ _ _ (by rw [wrap_small (z := (k : Int) + 1) (by omega) (by omega)]; first | rfl | go_num) (rcd.addP (qs := [x]) (Nat.lt_succ_self _) hown' (by rw [List.length_append]; rfl) hg') (hb'.setCell (p := ⟨br, 0, none⟩) (Nat.le_refl _) _) (by rw [World.size_setCell]; exact Nat.le_trans hs3 hg'.size))
set_option maxHeartbeats 32000000 in
theorem j16_d0 {Q : Exit → Act → World → Prop} {cd : Code} {dl : List Deferred} {Z0 Z1 Z4 Z5 Z9 Za Zb Zc Zd Ze Zf Zg Zh Zi Zj Zk Zl Zm Zn Zo Zp Zq Zr Zs Zt Zu Zv Zw Zx Zy Zz Z10 Z11 Z12 Z13 Z14 Z15 Z16 Z17 Z18 Z19 Z1a Z1b Z1c Z1d Z1e Z1f Z1g Z1h Z1i Z1j Z1k Z1l Z1m Z1n Z1o Z1p Z1q Z1r Z1s Z1t Z1u Z1v Z1w Z1x Z1y Z1z Z20 Z21 Z22 Z23 Z24 Z25 Z26 Z27 Z28 Z29 Z2a Z2b Z2c Z2d Z2e Z2f Z2g Z2h Z2i Z2j Z2k Z2l Z2m Z2n Z2o Z2p Z2q Z2r Z2s Z2t Z2u Z2v Z2w Z2x Z2y Z2z Z30 Z31 Z32 Z33 Z34 Z35 Z36 Z37 Z38 Z39 Z3a Z3b Z3c Z3d Z3e Z3f Z3g Z3h Z3i Z3j Z3k Z3l Z3m Z3n Z3o Z3p Z3q Z3r Z3s Z3t Z3u Z3v Z3w Z3x Z3y Z3z Z40 Z41 Z42 Z43 Z44 Z45 Z46 Z47 Z48 Z49 Z4a Z4b Z4c Z4d Z4e Z4f Z4g Z4h Z4i Z4j Z4k Z4l Z4m Z4n Z4o Z4p Z4q Z4r Z4s Z4t Z4u Z4v Z4w Z4x Z4y Z4z Z50 Z51 Z52 Z53 Z54 Z55 Z56 Z57 Z58 Z59 Z5a Z5b Z5c Z5d Z5e Z5f Z5g Z5h Z5i Z5j Z5k Z5l Z5m Z5n Z5o Z5p Z5q Z5r Z5s Z5t Z5u Z5v Z5w Z5x Z5y Z5z Z60 Z61 Z62 Z63 Z64 Z65 Z66 Z67 Z68 Z69 Z6a Z6b Z6c Z6d Z6e Z6f Z6g Z6h Z6i Z6j Z6k Z6l Z6m Z6n Z6o Z6p Z6q Z6r Z6s Z6t Z6u Z6v Z6w Z6x Z6y Z6z Z70 Z71 Z72 Z73 Z74 Z75 Z76 Z77 Z78 Z79 Z7a Z7b Z7c Z7d Z7e Z7f Z7g Z7h Z7i Z7j Z7k Z7l Z7m Z7n Z7o Z7p Z7q Z7r Z7s Z7t Z7u Z7v Z7w Z7x Z7y Z7z Z80 Z81 Z82 Z83 Z84 Z85 Z86 Z87 Z88 Z89 Z8a Z8b Z8c Z8d Z8e Z8f Z8g Z8h Z8i Z8j Z8k Z8l Z8m Z8n Z8o Z8p : Value} (XA YA ZA XB YB ZB : Option Addr) (xc yc zc xd yd zd : Nat) (a1 a2 : List P5) (a3 : List P4) (b1 b2 : List P5) (b3 : List P4) (X : World) (ba bb br i k : Nat) (xa : Box X ba #[.slice XA a1.length xc, .slice YA a2.length yc, .slice ZA a3.length zc] 30) (xb : Box X bb #[.slice XB b1.length xd, .slice YB b2.length yd, .slice ZB b3.length zd] 30) (W0 : World) (v1 v2 v3 : Value) (o1 o2 : List P5) (o3 : List P4) (rc : RC X (br + 1) br o1 o2 o3 v1 v2 v3) (hB : Below br W0 X) (hs : br + 1 ≤ X.heap.size) (hS : Sl 5 p5cell X X.heap.size XA a1) (hlt : i < a1.length) (hol : o1.length ≤ 15000) (hi : i ≤ 10000) (hcd : (Tryz.f29.body.bind (regionOf 6)) = some cd)
    (hQ : ∀ (y30 y31 y32 y33 y34 y35 y36 y37 y38 y39 y40 y41 : Value) (wo : World) (z7 : Value) (v' : Value), z7 = .int .i64 ((i + 1 : Nat) : Int) → RC wo (br + 1) br (o1 ++ [a1[i]]) o2 o3 v' v2 v3 → Below br W0 wo → br + 1 ≤ wo.heap.size → Q .normal ⟨#[Z0,Z1,.pointer (some ⟨ba, 0, none⟩),.pointer (some ⟨bb, 0, none⟩),Z4,Z5,.pointer (some ⟨br, 0, none⟩),z7,.int .i64 k,Z9,Za,Zb,Zc,Zd,Ze,Zf,Zg,Zh,Zi,Zj,Zk,Zl,Zm,Zn,Zo,Zp,Zq,Zr,Zs,Zt,y30,y31,y32,y33,y34,y35,y36,y37,y38,y39,y40,y41,Z16,Z17,Z18,Z19,Z1a,Z1b,Z1c,Z1d,Z1e,Z1f,Z1g,Z1h,Z1i,Z1j,Z1k,Z1l,Z1m,Z1n,Z1o,Z1p,Z1q,Z1r,Z1s,Z1t,Z1u,Z1v,Z1w,Z1x,Z1y,Z1z,Z20,Z21,Z22,Z23,Z24,Z25,Z26,Z27,Z28,Z29,Z2a,Z2b,Z2c,Z2d,Z2e,Z2f,Z2g,Z2h,Z2i,Z2j,Z2k,Z2l,Z2m,Z2n,Z2o,Z2p,Z2q,Z2r,Z2s,Z2t,Z2u,Z2v,Z2w,Z2x,Z2y,Z2z,Z30,Z31,Z32,Z33,Z34,Z35,Z36,Z37,Z38,Z39,Z3a,Z3b,Z3c,Z3d,Z3e,Z3f,Z3g,Z3h,Z3i,Z3j,Z3k,Z3l,Z3m,Z3n,Z3o,Z3p,Z3q,Z3r,Z3s,Z3t,Z3u,Z3v,Z3w,Z3x,Z3y,Z3z,Z40,Z41,Z42,Z43,Z44,Z45,Z46,Z47,Z48,Z49,Z4a,Z4b,Z4c,Z4d,Z4e,Z4f,Z4g,Z4h,Z4i,Z4j,Z4k,Z4l,Z4m,Z4n,Z4o,Z4p,Z4q,Z4r,Z4s,Z4t,Z4u,Z4v,Z4w,Z4x,Z4y,Z4z,Z50,Z51,Z52,Z53,Z54,Z55,Z56,Z57,Z58,Z59,Z5a,Z5b,Z5c,Z5d,Z5e,Z5f,Z5g,Z5h,Z5i,Z5j,Z5k,Z5l,Z5m,Z5n,Z5o,Z5p,Z5q,Z5r,Z5s,Z5t,Z5u,Z5v,Z5w,Z5x,Z5y,Z5z,Z60,Z61,Z62,Z63,Z64,Z65,Z66,Z67,Z68,Z69,Z6a,Z6b,Z6c,Z6d,Z6e,Z6f,Z6g,Z6h,Z6i,Z6j,Z6k,Z6l,Z6m,Z6n,Z6o,Z6p,Z6q,Z6r,Z6s,Z6t,Z6u,Z6v,Z6w,Z6x,Z6y,Z6z,Z70,Z71,Z72,Z73,Z74,Z75,Z76,Z77,Z78,Z79,Z7a,Z7b,Z7c,Z7d,Z7e,Z7f,Z7g,Z7h,Z7i,Z7j,Z7k,Z7l,Z7m,Z7n,Z7o,Z7p,Z7q,Z7r,Z7s,Z7t,Z7u,Z7v,Z7w,Z7x,Z7y,Z7z,Z80,Z81,Z82,Z83,Z84,Z85,Z86,Z87,Z88,Z89,Z8a,Z8b,Z8c,Z8d,Z8e,Z8f,Z8g,Z8h,Z8i,Z8j,Z8k,Z8l,Z8m,Z8n,Z8o,Z8p], dl⟩ wo) :
    cd.wp Tryz.prog Q ⟨#[Z0,Z1,.pointer (some ⟨ba, 0, none⟩),.pointer (some ⟨bb, 0, none⟩),Z4,Z5,.pointer (some ⟨br, 0, none⟩),.int .i64 i,.int .i64 k,Z9,Za,Zb,Zc,Zd,Ze,Zf,Zg,Zh,Zi,Zj,Zk,Zl,Zm,Zn,Zo,Zp,Zq,Zr,Zs,Zt,Zu,Zv,Zw,Zx,Zy,Zz,Z10,Z11,Z12,Z13,Z14,Z15,Z16,Z17,Z18,Z19,Z1a,Z1b,Z1c,Z1d,Z1e,Z1f,Z1g,Z1h,Z1i,Z1j,Z1k,Z1l,Z1m,Z1n,Z1o,Z1p,Z1q,Z1r,Z1s,Z1t,Z1u,Z1v,Z1w,Z1x,Z1y,Z1z,Z20,Z21,Z22,Z23,Z24,Z25,Z26,Z27,Z28,Z29,Z2a,Z2b,Z2c,Z2d,Z2e,Z2f,Z2g,Z2h,Z2i,Z2j,Z2k,Z2l,Z2m,Z2n,Z2o,Z2p,Z2q,Z2r,Z2s,Z2t,Z2u,Z2v,Z2w,Z2x,Z2y,Z2z,Z30,Z31,Z32,Z33,Z34,Z35,Z36,Z37,Z38,Z39,Z3a,Z3b,Z3c,Z3d,Z3e,Z3f,Z3g,Z3h,Z3i,Z3j,Z3k,Z3l,Z3m,Z3n,Z3o,Z3p,Z3q,Z3r,Z3s,Z3t,Z3u,Z3v,Z3w,Z3x,Z3y,Z3z,Z40,Z41,Z42,Z43,Z44,Z45,Z46,Z47,Z48,Z49,Z4a,Z4b,Z4c,Z4d,Z4e,Z4f,Z4g,Z4h,Z4i,Z4j,Z4k,Z4l,Z4m,Z4n,Z4o,Z4p,Z4q,Z4r,Z4s,Z4t,Z4u,Z4v,Z4w,Z4x,Z4y,Z4z,Z50,Z51,Z52,Z53,Z54,Z55,Z56,Z57,Z58,Z59,Z5a,Z5b,Z5c,Z5d,Z5e,Z5f,Z5g,Z5h,Z5i,Z5j,Z5k,Z5l,Z5m,Z5n,Z5o,Z5p,Z5q,Z5r,Z5s,Z5t,Z5u,Z5v,Z5w,Z5x,Z5y,Z5z,Z60,Z61,Z62,Z63,Z64,Z65,Z66,Z67,Z68,Z69,Z6a,Z6b,Z6c,Z6d,Z6e,Z6f,Z6g,Z6h,Z6i,Z6j,Z6k,Z6l,Z6m,Z6n,Z6o,Z6p,Z6q,Z6r,Z6s,Z6t,Z6u,Z6v,Z6w,Z6x,Z6y,Z6z,Z70,Z71,Z72,Z73,Z74,Z75,Z76,Z77,Z78,Z79,Z7a,Z7b,Z7c,Z7d,Z7e,Z7f,Z7g,Z7h,Z7i,Z7j,Z7k,Z7l,Z7m,Z7n,Z7o,Z7p,Z7q,Z7r,Z7s,Z7t,Z7u,Z7v,Z7w,Z7x,Z7y,Z7z,Z80,Z81,Z82,Z83,Z84,Z85,Z86,Z87,Z88,Z89,Z8a,Z8b,Z8c,Z8d,Z8e,Z8f,Z8g,Z8h,Z8i,Z8j,Z8k,Z8l,Z8m,Z8n,Z8o,Z8p], dl⟩ X := by
  rw [show (Tryz.f29.body.bind (regionOf 6)) = some (Code.region 6 _ true) from rfl] at hcd
  obtain rfl := Option.some.inj hcd
  clear hcd
  dsimp only at hQ ⊢
  obtain ⟨i0, hi0, hz0, hz1, hz2⟩ := info_parts pairInfo
  have Hi := Lib.hid hi0; have Hz0 := Lib.hid hz0; have Hz1 := Lib.hid hz1; have Hz2 := Lib.hid hz2
  clear hi0 hz0 hz1 hz2
  obtain ⟨p0, p1, p2⟩ := xa.c3
  obtain ⟨q0, q1, q2⟩ := xb.c3
  obtain ⟨y0, y1, y2⟩ := rc.box.c3
  have f0 := rc.box.frozen 0
  have la0 := xa.lt
  have lb0 := xb.lt
  have lr0 := rc.box.lt
  have z0 : (0 : Int) ≤ (i : Int) := by omega
  have g1 : (i : Int) < (a1.length : Int) := by omega
  obtain ⟨la, hla, laB, ex0, hq⟩ := hS.sp (by decide) hlt
  have ex1 := hq 1 (by decide) (by decide)
  have ex2 := hq 2 (by decide) (by decide)
  have ex3 := hq 3 (by decide) (by decide)
  have ex4 := hq 4 (by decide) (by decide)
  clear hq
  obtain ⟨x, hx⟩ : ∃ x, a1[i] = x := ⟨_, rfl⟩
  rw [hx] at ex0 ex1 ex2 ex3 ex4 hQ
  clear hx
  replace ex0 : X.cell? (la.add (i * 5)) = some (.int .i64 x.a) := ex0
  replace ex1 : X.cell? (⟨(la.add (i * 5)).block, (la.add (i * 5)).off + 1, none⟩) = some (.int .i64 x.b) := ex1
  replace ex2 : X.cell? (⟨(la.add (i * 5)).block, (la.add (i * 5)).off + 2, none⟩) = some (.int .i64 x.c) := ex2
  replace ex3 : X.cell? (⟨(la.add (i * 5)).block, (la.add (i * 5)).off + 3, none⟩) = some (.int .i64 x.d) := ex3
  replace ex4 : X.cell? (⟨(la.add (i * 5)).block, (la.add (i * 5)).off + 4, none⟩) = some (.int .i64 x.e) := ex4
  clear hS
  subst hla
  have rcd := rc.below (Below.refl X.heap.size X).drew
  have hBd := hB.drew
  have hs3 : br + 1 ≤ X.drew.heap.size := hs
  refine wp_region_noPanic ?_
  go_region_law ((refine step_pushR (w := X.drew) (w0 := W0) (cell := p5cell) (y := x) rfl _ _ _ rfl (br + 1) br 66 i0 _ 40 Tryz.underlying26 Hi.out Hz0.out Hz1.out Hz2.out rfl (by decide) v1 o1.length o1 (by simp [Act.eval]) rcd.p _ _ rfl _ (by simp [Act.eval]; rfl) (p5_one _) (by unfold maxLen; omega) (by omega) hs3 (by omega) hBd ?_; intro v' w' hown' hb' hg'; have b1 := rcd.box.grown hg' (rcd.box.ne_own (by decide) rcd.p); obtain ⟨y0, y1, y2⟩ := b1.c3; have f0 := b1.frozen 0; obtain ⟨g', cap', rfl⟩ := ownsRow_succ hown'))
  all_goals refine NoPanic.normal (hQ _ _ _ _ _ _ _ _ _ _ _ _ _ _ _ (by rw [wrap_small (z := (i : Int) + 1) (by omega) (by omega)]; first | rfl | go_num) (rcd.addP (qs := [x]) (Nat.lt_succ_self _) hown' (by rw [List.length_append]; rfl) hg') (hb'.setCell (p := ⟨br, 0, none⟩) (Nat.le_refl _) _) (by rw [World.size_setCell]; exact Nat.le_trans hs3 hg'.size))
set_option maxHeartbeats 32000000 in
theorem j16_ab0 {Q : Exit → Act → World → Prop} {cd : Code} {dl : List Deferred} {Z0 Z1 Z4 Z5 Z9 Za Zb Zc Zd Ze Zf Zg Zh Zi Zj Zk Zl Zm Zn Zo Zp Zq Zr Zs Zt Zu Zv Zw Zx Zy Zz Z10 Z11 Z12 Z13 Z14 Z15 Z16 Z17 Z18 Z19 Z1a Z1b Z1c Z1d Z1e Z1f Z1g Z1h Z1i Z1j Z1k Z1l Z1m Z1n Z1o Z1p Z1q Z1r Z1s Z1t Z1u Z1v Z1w Z1x Z1y Z1z Z20 Z21 Z22 Z23 Z24 Z25 Z26 Z27 Z28 Z29 Z2a Z2b Z2c Z2d Z2e Z2f Z2g Z2h Z2i Z2j Z2k Z2l Z2m Z2n Z2o Z2p Z2q Z2r Z2s Z2t Z2u Z2v Z2w Z2x Z2y Z2z Z30 Z31 Z32 Z33 Z34 Z35 Z36 Z37 Z38 Z39 Z3a Z3b Z3c Z3d Z3e Z3f Z3g Z3h Z3i Z3j Z3k Z3l Z3m Z3n Z3o Z3p Z3q Z3r Z3s Z3t Z3u Z3v Z3w Z3x Z3y Z3z Z40 Z41 Z42 Z43 Z44 Z45 Z46 Z47 Z48 Z49 Z4a Z4b Z4c Z4d Z4e Z4f Z4g Z4h Z4i Z4j Z4k Z4l Z4m Z4n Z4o Z4p Z4q Z4r Z4s Z4t Z4u Z4v Z4w Z4x Z4y Z4z Z50 Z51 Z52 Z53 Z54 Z55 Z56 Z57 Z58 Z59 Z5a Z5b Z5c Z5d Z5e Z5f Z5g Z5h Z5i Z5j Z5k Z5l Z5m Z5n Z5o Z5p Z5q Z5r Z5s Z5t Z5u Z5v Z5w Z5x Z5y Z5z Z60 Z61 Z62 Z63 Z64 Z65 Z66 Z67 Z68 Z69 Z6a Z6b Z6c Z6d Z6e Z6f Z6g Z6h Z6i Z6j Z6k Z6l Z6m Z6n Z6o Z6p Z6q Z6r Z6s Z6t Z6u Z6v Z6w Z6x Z6y Z6z Z70 Z71 Z72 Z73 Z74 Z75 Z76 Z77 Z78 Z79 Z7a Z7b Z7c Z7d Z7e Z7f Z7g Z7h Z7i Z7j Z7k Z7l Z7m Z7n Z7o Z7p Z7q Z7r Z7s Z7t Z7u Z7v Z7w Z7x Z7y Z7z Z80 Z81 Z82 Z83 Z84 Z85 Z86 Z87 Z88 Z89 Z8a Z8b Z8c Z8d Z8e Z8f Z8g Z8h Z8i Z8j Z8k Z8l Z8m Z8n Z8o Z8p : Value} (XA YA ZA XB YB ZB : Option Addr) (xc yc zc xd yd zd : Nat) (a1 a2 : List P5) (a3 : List P4) (b1 b2 : List P5) (b3 : List P4) (X : World) (ba bb br i k : Nat) (xa : Box X ba #[.slice XA a1.length xc, .slice YA a2.length yc, .slice ZA a3.length zc] 30) (xb : Box X bb #[.slice XB b1.length xd, .slice YB b2.length yd, .slice ZB b3.length zd] 30) (W0 : World) (v1 v2 v3 : Value) (o1 o2 : List P5) (o3 : List P4) (rc : RC X (br + 1) br o1 o2 o3 v1 v2 v3) (hB : Below br W0 X) (hs : br + 1 ≤ X.heap.size) (hS : Sl 5 p5cell X X.heap.size XA a1) (hlt : i < a1.length) (hol : o1.length ≤ 15000) (hi : i ≤ 10000) (hk : k ≤ 10000) (hcd : (Tryz.f29.body.bind (regionOf 10)) = some cd)
    (hQ : ∀ (y101 y102 y103 y104 y105 y106 y107 y108 y109 y110 y111 y112 y113 y114 : Value) (wo : World) (z7 z8 : Value) (v' : Value), z7 = .int .i64 ((i + 1 : Nat) : Int) → z8 = .int .i64 ((k + 1 : Nat) : Int) → RC wo (br + 1) br (o1 ++ [a1[i]]) o2 o3 v' v2 v3 → Below br W0 wo → br + 1 ≤ wo.heap.size → Q .normal ⟨#[Z0,Z1,.pointer (some ⟨ba, 0, none⟩),.pointer (some ⟨bb, 0, none⟩),Z4,Z5,.pointer (some ⟨br, 0, none⟩),z7,z8,Z9,Za,Zb,Zc,Zd,Ze,Zf,Zg,Zh,Zi,Zj,Zk,Zl,Zm,Zn,Zo,Zp,Zq,Zr,Zs,Zt,Zu,Zv,Zw,Zx,Zy,Zz,Z10,Z11,Z12,Z13,Z14,Z15,Z16,Z17,Z18,Z19,Z1a,Z1b,Z1c,Z1d,Z1e,Z1f,Z1g,Z1h,Z1i,Z1j,Z1k,Z1l,Z1m,Z1n,Z1o,Z1p,Z1q,Z1r,Z1s,Z1t,Z1u,Z1v,Z1w,Z1x,Z1y,Z1z,Z20,Z21,Z22,Z23,Z24,Z25,Z26,Z27,Z28,Z29,Z2a,Z2b,Z2c,Z2d,Z2e,Z2f,Z2g,Z2h,Z2i,Z2j,Z2k,Z2l,Z2m,Z2n,Z2o,Z2p,Z2q,Z2r,Z2s,y101,y102,y103,y104,y105,y106,y107,y108,y109,y110,y111,y112,y113,y114,Z37,Z38,Z39,Z3a,Z3b,Z3c,Z3d,Z3e,Z3f,Z3g,Z3h,Z3i,Z3j,Z3k,Z3l,Z3m,Z3n,Z3o,Z3p,Z3q,Z3r,Z3s,Z3t,Z3u,Z3v,Z3w,Z3x,Z3y,Z3z,Z40,Z41,Z42,Z43,Z44,Z45,Z46,Z47,Z48,Z49,Z4a,Z4b,Z4c,Z4d,Z4e,Z4f,Z4g,Z4h,Z4i,Z4j,Z4k,Z4l,Z4m,Z4n,Z4o,Z4p,Z4q,Z4r,Z4s,Z4t,Z4u,Z4v,Z4w,Z4x,Z4y,Z4z,Z50,Z51,Z52,Z53,Z54,Z55,Z56,Z57,Z58,Z59,Z5a,Z5b,Z5c,Z5d,Z5e,Z5f,Z5g,Z5h,Z5i,Z5j,Z5k,Z5l,Z5m,Z5n,Z5o,Z5p,Z5q,Z5r,Z5s,Z5t,Z5u,Z5v,Z5w,Z5x,Z5y,Z5z,Z60,Z61,Z62,Z63,Z64,Z65,Z66,Z67,Z68,Z69,Z6a,Z6b,Z6c,Z6d,Z6e,Z6f,Z6g,Z6h,Z6i,Z6j,Z6k,Z6l,Z6m,Z6n,Z6o,Z6p,Z6q,Z6r,Z6s,Z6t,Z6u,Z6v,Z6w,Z6x,Z6y,Z6z,Z70,Z71,Z72,Z73,Z74,Z75,Z76,Z77,Z78,Z79,Z7a,Z7b,Z7c,Z7d,Z7e,Z7f,Z7g,Z7h,Z7i,Z7j,Z7k,Z7l,Z7m,Z7n,Z7o,Z7p,Z7q,Z7r,Z7s,Z7t,Z7u,Z7v,Z7w,Z7x,Z7y,Z7z,Z80,Z81,Z82,Z83,Z84,Z85,Z86,Z87,Z88,Z89,Z8a,Z8b,Z8c,Z8d,Z8e,Z8f,Z8g,Z8h,Z8i,Z8j,Z8k,Z8l,Z8m,Z8n,Z8o,Z8p], dl⟩ wo) :
    cd.wp Tryz.prog Q ⟨#[Z0,Z1,.pointer (some ⟨ba, 0, none⟩),.pointer (some ⟨bb, 0, none⟩),Z4,Z5,.pointer (some ⟨br, 0, none⟩),.int .i64 i,.int .i64 k,Z9,Za,Zb,Zc,Zd,Ze,Zf,Zg,Zh,Zi,Zj,Zk,Zl,Zm,Zn,Zo,Zp,Zq,Zr,Zs,Zt,Zu,Zv,Zw,Zx,Zy,Zz,Z10,Z11,Z12,Z13,Z14,Z15,Z16,Z17,Z18,Z19,Z1a,Z1b,Z1c,Z1d,Z1e,Z1f,Z1g,Z1h,Z1i,Z1j,Z1k,Z1l,Z1m,Z1n,Z1o,Z1p,Z1q,Z1r,Z1s,Z1t,Z1u,Z1v,Z1w,Z1x,Z1y,Z1z,Z20,Z21,Z22,Z23,Z24,Z25,Z26,Z27,Z28,Z29,Z2a,Z2b,Z2c,Z2d,Z2e,Z2f,Z2g,Z2h,Z2i,Z2j,Z2k,Z2l,Z2m,Z2n,Z2o,Z2p,Z2q,Z2r,Z2s,Z2t,Z2u,Z2v,Z2w,Z2x,Z2y,Z2z,Z30,Z31,Z32,Z33,Z34,Z35,Z36,Z37,Z38,Z39,Z3a,Z3b,Z3c,Z3d,Z3e,Z3f,Z3g,Z3h,Z3i,Z3j,Z3k,Z3l,Z3m,Z3n,Z3o,Z3p,Z3q,Z3r,Z3s,Z3t,Z3u,Z3v,Z3w,Z3x,Z3y,Z3z,Z40,Z41,Z42,Z43,Z44,Z45,Z46,Z47,Z48,Z49,Z4a,Z4b,Z4c,Z4d,Z4e,Z4f,Z4g,Z4h,Z4i,Z4j,Z4k,Z4l,Z4m,Z4n,Z4o,Z4p,Z4q,Z4r,Z4s,Z4t,Z4u,Z4v,Z4w,Z4x,Z4y,Z4z,Z50,Z51,Z52,Z53,Z54,Z55,Z56,Z57,Z58,Z59,Z5a,Z5b,Z5c,Z5d,Z5e,Z5f,Z5g,Z5h,Z5i,Z5j,Z5k,Z5l,Z5m,Z5n,Z5o,Z5p,Z5q,Z5r,Z5s,Z5t,Z5u,Z5v,Z5w,Z5x,Z5y,Z5z,Z60,Z61,Z62,Z63,Z64,Z65,Z66,Z67,Z68,Z69,Z6a,Z6b,Z6c,Z6d,Z6e,Z6f,Z6g,Z6h,Z6i,Z6j,Z6k,Z6l,Z6m,Z6n,Z6o,Z6p,Z6q,Z6r,Z6s,Z6t,Z6u,Z6v,Z6w,Z6x,Z6y,Z6z,Z70,Z71,Z72,Z73,Z74,Z75,Z76,Z77,Z78,Z79,Z7a,Z7b,Z7c,Z7d,Z7e,Z7f,Z7g,Z7h,Z7i,Z7j,Z7k,Z7l,Z7m,Z7n,Z7o,Z7p,Z7q,Z7r,Z7s,Z7t,Z7u,Z7v,Z7w,Z7x,Z7y,Z7z,Z80,Z81,Z82,Z83,Z84,Z85,Z86,Z87,Z88,Z89,Z8a,Z8b,Z8c,Z8d,Z8e,Z8f,Z8g,Z8h,Z8i,Z8j,Z8k,Z8l,Z8m,Z8n,Z8o,Z8p], dl⟩ X := by
  rw [show (Tryz.f29.body.bind (regionOf 10)) = some (Code.region 10 _ true) from rfl] at hcd
  obtain rfl := Option.some.inj hcd
  clear hcd
  dsimp only at hQ ⊢
  obtain ⟨i0, hi0, hz0, hz1, hz2⟩ := info_parts pairInfo
  have Hi := Lib.hid hi0; have Hz0 := Lib.hid hz0; have Hz1 := Lib.hid hz1; have Hz2 := Lib.hid hz2
  clear hi0 hz0 hz1 hz2
  obtain ⟨p0, p1, p2⟩ := xa.c3
  obtain ⟨q0, q1, q2⟩ := xb.c3
  obtain ⟨y0, y1, y2⟩ := rc.box.c3
  have f0 := rc.box.frozen 0
  have la0 := xa.lt
  have lb0 := xb.lt
  have lr0 := rc.box.lt
  have z0 : (0 : Int) ≤ (i : Int) := by omega
  have g1 : (i : Int) < (a1.length : Int) := by omega
  obtain ⟨la, hla, laB, ex0, hq⟩ := hS.sp (by decide) hlt
  have ex1 := hq 1 (by decide) (by decide)
  have ex2 := hq 2 (by decide) (by decide)
  have ex3 := hq 3 (by decide) (by decide)
  have ex4 := hq 4 (by decide) (by decide)
  clear hq
  obtain ⟨x, hx⟩ : ∃ x, a1[i] = x := ⟨_, rfl⟩
  rw [hx] at ex0 ex1 ex2 ex3 ex4 hQ
  clear hx
  replace ex0 : X.cell? (la.add (i * 5)) = some (.int .i64 x.a) := ex0
  replace ex1 : X.cell? (⟨(la.add (i * 5)).block, (la.add (i * 5)).off + 1, none⟩) = some (.int .i64 x.b) := ex1
  replace ex2 : X.cell? (⟨(la.add (i * 5)).block, (la.add (i * 5)).off + 2, none⟩) = some (.int .i64 x.c) := ex2
  replace ex3 : X.cell? (⟨(la.add (i * 5)).block, (la.add (i * 5)).off + 3, none⟩) = some (.int .i64 x.d) := ex3
  replace ex4 : X.cell? (⟨(la.add (i * 5)).block, (la.add (i * 5)).off + 4, none⟩) = some (.int .i64 x.e) := ex4
  clear hS
  subst hla
  have rcd := rc.below (Below.refl X.heap.size X).drew
  have hBd := hB.drew
  have hs3 : br + 1 ≤ X.drew.heap.size := hs
  refine wp_region_noPanic ?_
  go_region_law ((refine step_pushR (w := X.drew) (w0 := W0) (cell := p5cell) (y := x) rfl _ _ _ rfl (br + 1) br 66 i0 _ 40 Tryz.underlying26 Hi.out Hz0.out Hz1.out Hz2.out rfl (by decide) v1 o1.length o1 (by simp [Act.eval]) rcd.p _ _ rfl _ (by simp [Act.eval]; rfl) (p5_one _) (by unfold maxLen; omega) (by omega) hs3 (by omega) hBd ?_; intro v' w' hown' hb' hg'; have b1 := rcd.box.grown hg' (rcd.box.ne_own (by decide) rcd.p); obtain ⟨y0, y1, y2⟩ := b1.c3; have f0 := b1.frozen 0; obtain ⟨g', cap', rfl⟩ := ownsRow_succ hown'))
  all_goals refine NoPanic.normal (hQ _ _ _ _ _ _ _ _ _ _ _ _ _ _ _ _ _ _ (by rw [wrap_small (z := (i : Int) + 1) (by omega) (by omega)]; first | rfl | go_num) (by rw [wrap_small (z := (k : Int) + 1) (by omega) (by omega)]; first | rfl | go_num) (rcd.addP (qs := [x]) (Nat.lt_succ_self _) hown' (by rw [List.length_append]; rfl) hg') (hb'.setCell (p := ⟨br, 0, none⟩) (Nat.le_refl _) _) (by rw [World.size_setCell]; exact Nat.le_trans hs3 hg'.size))
end Go.Proofs.YtciolgmljpamlaaGreatDoor
end
