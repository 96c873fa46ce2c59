/- A bundle of texts: Tot, Tot2, Area, Ref14, RefT, Int, Lost, Int2. -/
import Derived.Test.YtciolgmljpamlaaGreatDoorC21
import Derived.Maps.OwnOps
import Derived.DeepKeys4
import Derived.MapViews
import Derived.Carry
import Derived.Deep.RegionHeld3
section
namespace Go.Proofs.YtciolgmljpamlaaGreatDoor
open Go Go.RowKit Go.Maps
set_option maxRecDepth 100000
theorem wrap_small {z : Int} (h : -4611686018427387904 ≤ z) (h2 : z ≤ 4611686018427387904) : IntKind.i64.wrap z = z := by
  unfold IntKind.wrap
  simp [IntKind.bits, IntKind.signed]
  omega
set_option maxHeartbeats 4000000 in
theorem cellAt_ok (W H : Int) (GA PA : Option Addr) (gl gc pl pc : Nat) (i : Nat) (w : World) (hW : 1 ≤ W ∧ W ≤ 64) (hi : (i : Int) ≤ 1000000) :
    Calls Tryz.prog 97 #[tv W H GA PA gl gc pl pc, .int .i64 i] w fun e w' => e = .returned (cv (M.cx W i) (M.cy W i)) ∧ Below w.heap.size w w' := by
  obtain ⟨V, HW, x0, x1, hB, hs⟩ := boxes2 w #[.int .i64 W, .int .i64 H, .slice GA gl gc, .slice PA pl pc] 24 #[.int .i64 0, .int .i64 0] 113
  have e1 : (i : Int).tmod W = M.cx W i := by unfold M.cx; exact Int.tmod_eq_emod_of_nonneg (by omega)
  have hcy : 0 ≤ M.cy W i ∧ M.cy W i ≤ 1000000 := by
    unfold M.cy
    have := Int.ediv_nonneg (a := (i : Int)) (b := W) (by omega) (by omega)
    have := Int.ediv_le_self (a := (i : Int)) W (by omega)
    omega
  have e2 : IntKind.i64.wrap ((i : Int) / W) = M.cy W i := wrap_small (z := M.cy W i) (by omega) (by omega)
  have E1 := Lib.hid e1
  have E2 := Lib.hid e2
  have HS := Lib.hid hs
  clear e1 e2 hs hcy
  obtain ⟨c0, c1, c2, c3⟩ := x0.c4
  clear c1 c2 c3
  have D0 : V.drew.cell? ⟨w.heap.size, 0, none⟩ = some (.int .i64 W) := c0
  have hW0 : W ≠ 0 := by omega
  have hne : w.heap.size ≠ w.heap.size + 1 := by omega
  have D1 : ∀ u v, ((V.drew.setCell ⟨w.heap.size + 1, 0, none⟩ u).setCell ⟨w.heap.size + 1, 1, none⟩ v).cell? ⟨w.heap.size, 0, none⟩ = some (.int .i64 W) := fun u v => ((x0.set_other (p := ⟨w.heap.size + 1, 0, none⟩) hne u).set_other (p := ⟨w.heap.size + 1, 1, none⟩) hne v).c4.1
  have f0 : V.drew.frozen? ⟨w.heap.size + 1, 0, none⟩ = false := x1.frozen 0
  have f1 : V.drew.frozen? ⟨w.heap.size + 1, 1, none⟩ = false := x1.frozen 1
  have f2 := x1.frozen 0
  have f3 := x1.frozen 1
  obtain ⟨g0, g1⟩ := x1.c2
  have G0 : V.drew.cell? ⟨w.heap.size + 1, 0, none⟩ = some (.int .i64 0) := g0
  have G1 : V.drew.cell? ⟨w.heap.size + 1, 1, none⟩ = some (.int .i64 0) := g1
  go_enter Tryz.func97, Tryz.ntmps97
  go_wp2_with fail
  rw [HW.out]
  go_region_held3 (fun w' => w'.cell? ⟨w.heap.size, 0, none⟩ = some (.int .i64 W)) (first | with_reducible exact D0 | with_reducible exact c0 | exact D1 _ _) (fail)
  all_goals
    rw [E1.out, E2.out]
    have z := (x1.set 0 (.int .i64 (M.cx W i))).set 1 (.int .i64 (M.cy W i))
    obtain ⟨z0, z1⟩ := z.c2
    have Z0 : ((V.drew.setCell ⟨w.heap.size + 1, 0, none⟩ (.int .i64 (M.cx W i))).setCell ⟨w.heap.size + 1, 1, none⟩ (.int .i64 (M.cy W i))).cell? ⟨w.heap.size + 1, 0, none⟩ = some (.int .i64 (M.cx W i)) := z0
    have Z1 : ((V.drew.setCell ⟨w.heap.size + 1, 0, none⟩ (.int .i64 (M.cx W i))).setCell ⟨w.heap.size + 1, 1, none⟩ (.int .i64 (M.cy W i))).cell? ⟨w.heap.size + 1, 1, none⟩ = some (.int .i64 (M.cy W i)) := z1
    go_wp2_with fail
    refine bodyPost_ret (v := cv (M.cx W i) (M.cy W i)) ?_ rfl ⟨rfl, ?_⟩
    · simp [results, Tryz.results97, go_sem, z0, z1]
    · exact (hB.drew.setCell (p := ⟨w.heap.size + 1, 0, none⟩) (by dsimp only; omega) _).setCell (p := ⟨w.heap.size + 1, 1, none⟩) (by dsimp only; omega) _
theorem laidOutA : laidOutB Tryz.prog = true := by kernel_rfl
theorem rowCell : (113 : TypeId) < Tryz.prog.types.size := of_decide_eq_true (by kernel_rfl)
theorem cellsCell : Tryz.prog.cellsOf 113 = 2 := by kernel_rfl
theorem wideCell : (match Tryz.prog.underlying 113 with | some (.array _ _) | some (.struct _) => true | _ => false) = true := by rw [Tryz.underlying113]
theorem cellKeyed : Keyed Tryz.prog 113 := Keyed.of_law (deep_law_laid laidOutA (m := 2) (by omega) rowCell (by kernel_rfl) wideCell)
theorem keyTypeCell : Tryz.prog.keyType 113 = true := by kernel_rfl
theorem cellsInt1 : Tryz.prog.cellsOf 3 = 1 := by kernel_rfl
theorem int_wf {z : Int} (h : 0 ≤ z ∧ z ≤ 1000000) : (Lit.int .i64 z).wf = true := by
  simp [Lit.wf, IntKind.min, IntKind.max, IntKind.bits, IntKind.signed]
  omega
theorem cell_key (x y : Int) (hx : 0 ≤ x ∧ x ≤ 1000000) (hy : 0 ≤ y ∧ y ≤ 1000000) : ∃ kl, keyOf Tryz.prog 113 (cv x y) = some kl := by
  obtain ⟨m, hm⟩ : ∃ m, Tryz.prog.types.size + 1 = m + 2 := by
    obtain ⟨k, hk⟩ := Nat.exists_eq_add_of_lt rowCell
    exact ⟨_ + k, by rw [hk]⟩
  have hf : (cv x y).formed Tryz.prog 113 = true := by unfold cv; simp [Value.formed, Tryz.underlying113, cellsCell]
  have h1 := int_wf hx
  have h2 := int_wf hy
  have hk : Tryz.prog.keyLits (m + 2) 113 [.int .i64 x, .int .i64 y] = some [.int .i64 x, .int .i64 y] := by
    simp [Program.keyLits, Tryz.underlying113, Tryz.underlying3, cellsCell, cellsInt1, h1, h2]
  refine ⟨.string (keyBytes [.int .i64 x, .int .i64 y]), ?_⟩
  unfold keyOf
  rw [Tryz.underlying113, keyTypeCell, hf, hm]
  simp only [Bool.and_self, if_true]
  rw [show (cv x y).cells.toList = [.int .i64 x, .int .i64 y] from rfl, hk]
  rfl
theorem zeroBool (w : World) : (zeroValue 4).run Tryz.prog w = .ok (.bool false) w := by kernel_rfl
theorem wpList_lookup_own_bool {H : Type} {P : Program} (w : World) {ops : Array Oper} {rest : List Oper} {o : Oper} {a : Act} {Q : Exit → Act → World → Prop}
    (hg : o.guard = none) (m x : Operand) (t : TypeId) (hop : o.op = Op.lookup t m x false)
    (k e : TypeId) (K : Keyed P k) (ht : P.underlying t = some (.map k e)) (he : P.underlying e = some .bool) (hz : (zeroValue e).run P w = .ok (.bool false) w) (b n : Nat) (D : DataW H)
    (hm : a.eval m = .map (some b)) (hown : w.ownsMap P k (plainElem P e) b n D) (key : Value) (kl : Lit) (hx : a.eval x = key) (hkey : keyOf P k key = some kl) (r : Bool) (hr : D.atKey kl (.lit (.bool false)) = .lit (.bool r))
    (hK : wpList P ops Q rest (a.put o.dst (.bool r)) w) :
    wpList P ops Q (o :: rest) a w := by
  refine wpList_plain hg fun K' hK' => ?_
  obtain ⟨v, ps, hrun, hv⟩ := hown.lookup K ht hz (plainElem_bool he false) hkey
  rw [hr] at hv
  obtain rfl : v = .bool r := by
    unfold plainElem at hv
    rw [he] at hv
    cases v <;> simp at hv
    exact congrArg Value.bool hv.1
  unfold Oper.wp
  simp [execOp, hop, hm, hx, hrun, Result.andThen]
  exact hK' _ _ hK
def M.totTo (P : List Int) (l : List Int) : Nat → Int
  | 0 => 0
  | k + 1 => M.totTo P l k + match l[k]? with
    | some x => if x ∈ l.take k then 0 else P.getD x.toNat 0
    | none => 0
def M.total (P : List Int) (l : List Int) : Int := M.totTo P l l.length
theorem M.totTo_succ {P l : List Int} {k : Nat} (h : k < l.length) : M.totTo P l (k + 1) = M.totTo P l k + if l[k] ∈ l.take k then 0 else P.getD l[k].toNat 0 := by
  simp only [M.totTo, List.getElem?_eq_getElem h]
theorem M.totTo_bd {P l : List Int} (hP : ∀ g ∈ P, 0 ≤ g ∧ g ≤ 1000000) (k : Nat) : 0 ≤ M.totTo P l k ∧ M.totTo P l k ≤ 1000000 * k := by
  induction k with
  | zero => simp [M.totTo]
  | succ k ih =>
    have hg : ∀ j, 0 ≤ P.getD j 0 ∧ P.getD j 0 ≤ 1000000 := fun j => by
      by_cases hj : j < P.length
      · have := hP P[j] (List.getElem_mem hj)
        simpa [hj] using this
      · simp [Nat.le_of_not_lt hj]
    simp only [M.totTo]
    split
    · split
      · omega
      · rename_i x _ _
        have := hg x.toNat
        omega
    · omega
end Go.Proofs.YtciolgmljpamlaaGreatDoor
end

section
namespace Go.Proofs.YtciolgmljpamlaaGreatDoor
open Go Go.RowKit Go.Maps
set_option maxRecDepth 100000
theorem M.cell_ne {W : Int} {i j : Nat} (h : (cv (M.cx W i) (M.cy W i)) = cv (M.cx W j) (M.cy W j)) : i = j := by
  have h1 : M.cx W i = M.cx W j ∧ M.cy W i = M.cy W j := by
    unfold cv at h
    simpa using h
  unfold M.cx M.cy at h1
  have a := Int.emod_add_mul_ediv (i : Int) W
  have b := Int.emod_add_mul_ediv (j : Int) W
  rw [h1.1, h1.2] at a
  omega
def Cnt (W : Int) (n : Nat) (D : DataW Unit) (l : List Int) : Prop := ∀ (j : Nat) kl, j < n → keyOf Tryz.prog 113 (cv (M.cx W j) (M.cy W j)) = some kl → D.atKey kl (.lit (.bool false)) = .lit (.bool (decide ((j : Int) ∈ l)))
theorem Cnt.put {W : Int} {n : Nat} {D : DataW Unit} {l : List Int} (h : Cnt W n D l) (hm : IsMap D) {i : Nat} {kl : Lit} (hk : keyOf Tryz.prog 113 (cv (M.cx W i) (M.cy W i)) = some kl) : Cnt W n (D.put kl (.lit (.bool true))) (l ++ [(i : Int)]) := by
  intro j kj hj hkj
  by_cases e : j = i
  · subst e
    obtain rfl : kl = kj := Option.some.inj (hk.symm.trans hkj)
    rw [atKey_put_same hm (cellKeyed.key hk)]
    simp
  · have hne : kj ≠ kl := fun he => by
      subst he
      exact e (M.cell_ne (cellKeyed.inj hkj hk))
    rw [atKey_put_other hne, h j kj hj hkj]
    have : ((j : Int) ∈ l ++ [(i : Int)]) ↔ (j : Int) ∈ l := by
      simp
      intro e2
      omega
    simp only [this]
theorem Cnt.stay {W : Int} {n : Nat} {D : DataW Unit} {l : List Int} (h : Cnt W n D l) {x : Int} (hx : x ∈ l) : Cnt W n D (l ++ [x]) := by
  intro j kj hj hkj
  rw [h j kj hj hkj]
  have : ((j : Int) ∈ l ++ [x]) ↔ (j : Int) ∈ l := by
    simp
    intro e2
    rw [e2]; exact hx
  simp only [this]
theorem grownBy_cell_ne {w w' : World} {b c : Nat} (hg : w.grownBy w' (some b)) {p : Addr} (hp : p.block < w.heap.size) (h1 : p.block < c) (h2 : c < b) : w'.cell? p = w.cell? p :=
  World.cell?_of_block (hg.block p.block hp (fun e => by have := Option.some.inj e; omega))
set_option maxHeartbeats 16000000 in
theorem tTotal_ok (W H : Int) (GA PA : Option Addr) (gc pc : Nat) (G P : List Int) (A : Option Addr) (c : Nat) (l : List Int) (w : World) (hg : Sl 1 icell w w.heap.size GA G) (hp : Sl 1 icell w w.heap.size PA P) (hl : Sl 1 icell w w.heap.size A l) (htv : M.tvalid W H G P = true) (hlen : l.length ≤ 100000) (hin : ∀ x ∈ l, 0 ≤ x ∧ x < W * H) :
    Calls Tryz.prog 49 #[tv W H GA PA G.length gc P.length pc, .slice A l.length c] w fun e w' => e = .returned (.tuple #[.int .i64 (M.total P l), .int .i64 0]) ∧ Below w.heap.size w w' := by
  obtain ⟨V, HW, x0, hB, hs⟩ := boxes1 w #[.int .i64 W, .int .i64 H, .slice GA G.length gc, .slice PA P.length pc] 24
  obtain ⟨r1, r2, hr3, hr4, hr5, hr6⟩ := M.tvalid_iff.1 htv
  obtain ⟨wh1, wh2⟩ := M.wh_le r1 r2
  obtain ⟨n, hn⟩ : ∃ n : Nat, W * H = n := ⟨(W * H).toNat, by omega⟩
  have HTV := Lib.hid htv
  have HIN : Hid (∀ k (hk : k < l.length), ∃ i : Nat, l[k] = (i : Int) ∧ i < n) := Lib.hid (fun k hk => by
    have := hin l[k] (List.getElem_mem hk)
    exact ⟨l[k].toNat, by omega, by omega⟩)
  have HPL : Hid (P.length = n ∧ ∀ g ∈ P, 0 ≤ g ∧ g ≤ 1000000) := Lib.hid ⟨by omega, hr6⟩
  have hgl : G.length ≤ 5000 := by omega
  have hplen : P.length ≤ 5000 := by omega
  have hn4 : n ≤ 4096 := by omega
  have HS := Lib.hid hs
  clear hs htv hin hr3 hr4 hr5 hr6
  obtain ⟨c0, c1, c2, c3⟩ := x0.c4
  have hV := HW.out
  go_enter Tryz.func49, Tryz.ntmps49
  go_wp2_with fail
  clear hV c0 c1 c2 c3
  refine (tvalid_any W H GA PA gc pc G P V ((hg.below hB).more hB.size) ((hp.below hB).more hB.size) (by omega) (by omega)).mono ?_
  rintro e w1 ⟨rfl, hb1⟩
  rw [HTV.out]
  have B1 := after_ hB hb1
  have hmm := @run_makeMap Tryz.prog
  obtain ⟨U, HU⟩ : ∃ U, Hid (w1.alloc (.map #[] 0) = U) := ⟨_, Lib.hid rfl⟩
  have hU := HU.out
  have hbU : Below w1.heap.size w1 U := by rw [← hU]; exact (Below.refl _ _).alloc (Nat.le_refl _) _
  have BU := after_ B1 hbU
  have hown : U.ownsMap Tryz.prog 113 (plainElem (H := Unit) Tryz.prog 4) w1.heap.size 0 (.map []) := by rw [← hU]; exact World.ownsMap_made _ _ _ _
  have xU := (x0.below hb1).below hbU
  have hlt1 : w.heap.size < w1.heap.size := by have := HS.out; have := hb1.size; omega
  go_wp2_with fail
  clear hU hmm
  go_loopw [7, 9, 10, 17] (fun t _ _ i wr => ∃ (k : Nat) (m : Nat) (D : DataW Unit), k ≤ l.length ∧ m ≤ k ∧ i = .int .i64 k ∧ t = .int .i64 (M.totTo P l k) ∧ Below w.heap.size w wr ∧ Box wr w.heap.size #[.int .i64 W, .int .i64 H, .slice GA G.length gc, .slice PA P.length pc] 24 ∧ wr.ownsMap Tryz.prog 113 (plainElem (H := Unit) Tryz.prog 4) w1.heap.size m D ∧ Hid (IsMap D ∧ Cnt W n D (l.take k))) (fun _ _ _ i _ => l.length - (intOf i).toNat)
  case atStart => exact ⟨0, 0, .map [], Nat.zero_le _, Nat.le_refl _, rfl, rfl, BU, xU, hown, Lib.hid ⟨isMap_empty, fun j kl _ _ => by simp [DataW.atKey]⟩⟩
  case round =>
    clear hown xU
    obtain ⟨k, m, D, hk, hmk, rfl, rfl, hBr, xr, hown, HD⟩ := hrel
    by_cases hlt : k < l.length
    · obtain ⟨i, hie, hin⟩ := HIN.out k hlt
      obtain ⟨la, rfl, hlb, a0⟩ := ((hl.below hBr).more hBr.size).one_at hlt
      simp only [icell] at a0
      rw [hie] at a0
      obtain ⟨c0, c1, c2, c3⟩ := xr.c4
      have hIN : M.isIn (i : Int) 0 (n - 1) = true := M.isIn_iff.2 ⟨by omega, by omega⟩
      have hmul : W * H = (n : Int) := hn
      have HTS := Lib.hid (M.totTo_succ (P := P) hlt)
      rw [hie] at HTS
      have htb := M.totTo_bd (l := l) HPL.out.2 k
      have HTK : Hid (l.take (k + 1) = l.take k ++ [(i : Int)]) := Lib.hid (by rw [List.take_succ_eq_append_getElem hlt, hie])
      clear hie
      go_wp2_with fail
      refine (within_any (i : Int) 0 (n - 1) wr).mono ?_
      rintro e w3 ⟨rfl, rfl⟩
      rw [hIN]
      go_wp2_with fail
      refine (cellAt_ok W H GA PA G.length gc P.length pc i wr r1 (by omega)).mono ?_
      rintro e w4 ⟨rfl, hb4⟩
      have B4 := after_ hBr hb4
      obtain ⟨X, HX, u0, hbX, -⟩ := boxes1 w4 #[.int .i64 (M.cx W i), .int .i64 (M.cy W i)] 113
      have BX := after_ B4 hbX
      obtain ⟨hcx, hcy⟩ := M.cell_in (W := W) (H := H) (i := i) (by omega) (by omega)
      obtain ⟨kl, hkl⟩ := cell_key (M.cx W i) (M.cy W i) (by omega) (by omega)
      have hownX := (hown.kept (below_grown hb4) (by simp)).kept (below_grown hbX) (by simp)
      have xX := (xr.below hb4).below hbX
      have hat := HD.out.2 i kl hin hkl
      clear c0 c1 c2 c3 a0
      obtain ⟨c0, c1, c2, c3⟩ := xX.c4
      obtain ⟨d0, d1⟩ := u0.c2
      have hX := HX.out
      obtain ⟨pa, rfl, hpb, p0⟩ := ((hp.below BX).more BX.size).one_at (k := i) (by have := HPL.out.1; omega)
      have hpi : i < P.length := by have := HPL.out.1; omega
      have hPg : P.getD (i : Int).toNat 0 = P[i] := by simp [hpi]
      have hpv := HPL.out.2 P[i] (List.getElem_mem hpi)
      simp only [icell] at p0
      by_cases hmem : (i : Int) ∈ l.take k
      · rw [decide_eq_true hmem] at hat
        have HT2 : Hid (M.totTo P l (k + 1) = M.totTo P l k) := Lib.hid (by rw [HTS.out, if_pos hmem]; omega)
        have HC2 : Hid (IsMap D ∧ Cnt W n D (l.take (k + 1))) := Lib.hid ⟨HD.out.1, by rw [HTK.out]; exact HD.out.2.stay hmem⟩
        have HAT := Lib.hid hat
        clear hat hmem
        go_wp2_with (at_lookup; refine wpList_lookup_own_bool X rfl _ _ _ rfl 113 4 cellKeyed Tryz.underlying139 Tryz.underlying4 (zeroBool _) w1.heap.size m D rfl hownX _ kl rfl hkl true HAT.out ?_)
        go_roundw
        case rel => exact ⟨k + 1, m, D, hlt, by omega, by go_num, by rw [HT2.out], BX, xX, hownX, HC2⟩
        case measure => simp [intOf]; omega
      · rw [decide_eq_false hmem] at hat
        have HT2 : Hid (M.totTo P l (k + 1) = M.totTo P l k + P[i]) := Lib.hid (by rw [HTS.out, if_neg hmem, hPg])
        have HC2 : Hid (IsMap (D.put kl (.lit (.bool true))) ∧ Cnt W n (D.put kl (.lit (.bool true))) (l.take (k + 1))) := Lib.hid ⟨HD.out.1.put _ _, by rw [HTK.out]; exact HD.out.2.put HD.out.1 hkl⟩
        have HAT := Lib.hid hat
        clear hat hmem
        have hml : m < maxLen := by unfold maxLen; omega
        have hbm := hownX.lt
        have lX := xX.lt
        have hpb2 : (pa.add i).block < X.heap.size := by first | exact hpb | (rw [add_block]; exact hpb)
        have hpX : (pa.add i).block < w.heap.size := by
          rw [add_block]
          obtain ⟨pa', e', h', -⟩ := hp i hpi
          obtain rfl := Option.some.inj e'
          exact h'
        go_wp2_with (first | (at_lookup; refine wpList_lookup_own_bool X rfl _ _ _ rfl 113 4 cellKeyed Tryz.underlying139 Tryz.underlying4 (zeroBool _) w1.heap.size m D rfl hownX _ kl rfl hkl false HAT.out ?_) | (at_mapUpdate; refine wpList_mapUpdate_own X rfl _ _ _ _ rfl 113 4 cellKeyed Tryz.underlying139 _ w1.heap.size m D rfl hownX hml _ _ kl rfl rfl hkl _ [] (plainElem_bool Tryz.underlying4 true) ?_; intro w5 hown5 hg5; have B5 : Below w.heap.size w w5 := BX.grown hg5 BX.size (fun k e => by cases e; omega); have x5 : Box w5 w.heap.size #[.int .i64 W, .int .i64 H, .slice GA G.length gc, .slice (some pa) P.length pc] 24 := (hg5.block _ lX (fun e => by have := Option.some.inj e; omega)).trans xX; obtain ⟨v0, v1, v2, v3⟩ := x5.c4; have p5 : w5.cell? (pa.add i) = some (.int .i64 P[i]) := (grownBy_cell_ne hg5 hpb2 hpX hlt1).trans p0))
        go_roundw
        case rel => exact ⟨k + 1, m + 1, D.put kl (.lit (.bool true)), hlt, by omega, by go_num, by rw [HT2.out], B5, x5, hown5, HC2⟩
        case measure => simp [intOf]; omega
    · obtain rfl : k = l.length := by omega
      go_wp2_with fail
      go_ret2
      exact ⟨rfl, hBr⟩
end Go.Proofs.YtciolgmljpamlaaGreatDoor
end

section
namespace Go.Proofs.YtciolgmljpamlaaGreatDoor
open Go Go.RowKit Go.Shelf
set_option maxRecDepth 100000
def M.chk (W H : Int) (G P : List Int) (l : List St) : Int := if (M.tvalid W H G P && l.all (M.okS W H G P)) = true then 0 else 2
set_option maxHeartbeats 8000000 in
theorem check_big (W H : Int) (GA PA : Option Addr) (gc pc : Nat) (G P : List Int) (LA : Option Addr) (lc : Nat) (es : List SE) (w : World) (hg : Sl 1 icell w w.heap.size GA G) (hp : Sl 1 icell w w.heap.size PA P) (hL : Sl 8 secell w w.heap.size LA es) (hP : Pats w es)
    (hgl : G.length ≤ 9223372036854775807) (hpl' : P.length ≤ 9223372036854775807) (hl : es.length ≤ 9223372036854775807) (hpl : ∀ e ∈ es, e.s.pat.length ≤ 9223372036854775807) :
    Calls Tryz.prog 91 #[tv W H GA PA G.length gc P.length pc, .slice LA es.length lc] w fun e w' => e = .returned (.int .i64 (M.chk W H G P (es.map (·.s)))) ∧ Below w.heap.size w w' := by
  obtain ⟨V, HW, x0, hB, -⟩ := boxes1 w #[.int .i64 W, .int .i64 H, .slice GA G.length gc, .slice PA P.length pc] 24
  have hg1 := (hg.below hB).more hB.size
  have hp1 := (hp.below hB).more hB.size
  obtain ⟨r, hr⟩ : ∃ r, M.chk W H G P (es.map (·.s)) = r := ⟨_, rfl⟩
  have HNO : Hid (M.tvalid W H G P = false → 2 = r) := Lib.hid (fun h => by rw [← hr]; unfold M.chk; rw [h]; rfl)
  have HNK : Hid (∀ k (hk : k < es.length), M.okS W H G P es[k].s = false → 2 = r) := Lib.hid (fun k hk h => by
    rw [← hr]; unfold M.chk
    rw [if_neg]
    rw [Bool.and_eq_true, List.all_eq_true]
    intro h2
    have := h2.2 es[k].s (List.mem_map.2 ⟨_, List.getElem_mem hk, rfl⟩)
    rw [h] at this; cases this)
  have HYES : Hid (M.tvalid W H G P = true → (∀ k (hk : k < es.length), M.okS W H G P es[k].s = true) → 0 = r) := Lib.hid (fun h hk => by
    rw [← hr]; unfold M.chk
    rw [if_pos]
    rw [Bool.and_eq_true, List.all_eq_true]
    refine ⟨h, fun s hs => ?_⟩
    obtain ⟨e, he, rfl⟩ := List.mem_map.1 hs
    obtain ⟨j, hj, rfl⟩ := List.getElem_of_mem he
    exact hk j hj)
  rw [hr]
  clear hr
  go_enter Tryz.func91, Tryz.ntmps91
  go_wp2_with fail
  rw [HW.out]
  refine (tvalid_any W H GA PA gc pc G P V hg1 hp1 hgl hpl').mono ?_
  rintro e w1 ⟨rfl, hb1⟩
  have B1 := after_ hB hb1
  cases hc : M.tvalid W H G P with
  | false =>
    have HF := Lib.hid (HNO.out hc)
    go_wp2_with fail
    go_ret
    exact ⟨ret_int HF.out, B1⟩
  | true =>
    have y0 := x0.below hb1
    have HC := Lib.hid hc
    have HIF : Hid (∀ s, M.okS W H G P s = true ↔ M.svalid s = true ∧ s.x < W ∧ s.y < H) := Lib.hid (fun s => by
      rw [M.okS_iff]
      constructor
      · rintro ⟨a, b, c, d⟩; exact ⟨a, c, d⟩
      · rintro ⟨a, c, d⟩; exact ⟨a, hc, c, d⟩)
    clear hc
    go_wp2_with fail
    go_loopw [6, 12] (fun _ i wr => ∃ k : Nat, k ≤ es.length ∧ i = .int .i64 k ∧ Below w1.heap.size w1 wr ∧ Hid (∀ j (hj : j < es.length), j < k → M.okS W H G P es[j].s = true)) (fun _ i _ => es.length - (intOf i).toNat)
    case atStart => exact ⟨0, Nat.zero_le _, rfl, Below.refl _ _, Lib.hid (fun j _ h => absurd h (by omega))⟩
    case round =>
      obtain ⟨k, hk, rfl, hBr, HN⟩ := hrel
      have hBw := B1.trans (hBr.mono B1.size)
      by_cases hlt : k < es.length
      · obtain ⟨la, rfl, hlb, a0, a1, a2, a3, a4, a5, a6, a7⟩ := (hL.below hBw).st8 hlt
        have hS := (hP.below hBw).at_ hlt
        have hpk := hpl _ (List.getElem_mem hlt)
        have HK1 := Lib.hid (HNK.out k hlt)
        have HN2 : Hid (M.okS W H G P es[k].s = true → ∀ j (hj : j < es.length), j < k + 1 → M.okS W H G P es[j].s = true) := Lib.hid (fun h j h1 h3 => by
          by_cases e : j = k
          · subst e; exact h
          · exact HN.out j h1 (by omega))
        have HI := Lib.hid (HIF.out es[k].s)
        generalize es[k] = ek at *
        obtain ⟨s, A, c⟩ := ek
        simp only at a0 a1 a2 a3 a4 a5 a6 a7 hS hpk HK1 HN2 HI
        obtain ⟨U, HU, u0, hBU, -⟩ := boxes1 wr (stc s A c) 40
        obtain ⟨b0, b1, b2, b3, b4, b5, b6, b7⟩ := u0.c8
        have hU := HU.out
        have BU := after_ hBw hBU
        obtain ⟨c0, c1, c2, c3⟩ := ((y0.below hBr).below hBU).c4
        go_wp2_with fail
        clear hU
        refine (sValid_any s A c U ((hS.below hBU).more hBU.size) (by omega)).mono ?_
        rintro e w2 ⟨rfl, hb2⟩
        have B2 := after_ BU hb2
        cases hv : M.svalid s with
        | false =>
          have HF := Lib.hid (HK1.out (by
            cases ho : M.okS W H G P s with
            | false => rfl
            | true => have := (HI.out.1 ho).1; rw [hv] at this; cases this))
          go_wp2_with fail
          go_ret
          exact ⟨ret_int HF.out, B2⟩
        | true =>
          clear c0 c1 c2 c3 b0 b1 b2 b3 b4 b5 b6 b7
          obtain ⟨c0, c1, c2, c3⟩ := (((y0.below hBr).below hBU).below hb2).c4
          obtain ⟨b0, b1, b2, b3, b4, b5, b6, b7⟩ := (u0.below hb2).c8
          by_cases e1 : W ≤ s.x
          · have HF := Lib.hid (HK1.out (by
              cases ho : M.okS W H G P s with
              | false => rfl
              | true => have := (HI.out.1 ho).2.1; omega))
            have q1 : decide (W ≤ s.x) = true := decide_eq_true e1
            go_wp2_with fail
            go_ret
            exact ⟨ret_int HF.out, B2⟩
          have q1 : decide (W ≤ s.x) = false := decide_eq_false e1
          by_cases e2 : H ≤ s.y
          · have HF := Lib.hid (HK1.out (by
              cases ho : M.okS W H G P s with
              | false => rfl
              | true => have := (HI.out.1 ho).2.2; omega))
            have q2 : decide (H ≤ s.y) = true := decide_eq_true e2
            go_wp2_with fail
            go_ret
            exact ⟨ret_int HF.out, B2⟩
          have q2 : decide (H ≤ s.y) = false := decide_eq_false e2
          have HN3 := Lib.hid (HN2.out (HI.out.2 ⟨hv, by omega, by omega⟩))
          go_wp2_with fail
          go_roundw
          case rel => exact ⟨k + 1, hlt, by go_num, after_ (after_ hBr hBU) hb2, HN3⟩
          case measure => simp [intOf]; omega
      · have HF := Lib.hid (HYES.out HC.out (fun j hj => HN.out j hj (by omega)))
        go_wp2_with fail
        go_ret
        exact ⟨ret_int HF.out, hBw⟩
theorem check_any (W H : Int) (GA PA : Option Addr) (gc pc : Nat) (G P : List Int) (LA : Option Addr) (lc : Nat) (es : List SE) (w : World) (hg : Sl 1 icell w w.heap.size GA G) (hp : Sl 1 icell w w.heap.size PA P) (hL : Sl 8 secell w w.heap.size LA es) (hP : Pats w es)
    (hgl : G.length ≤ 9223372036854775807) (hpl' : P.length ≤ 9223372036854775807) (hl : es.length ≤ 9223372036854775807) (hpl : ∀ e ∈ es, e.s.pat.length ≤ 1000) :
    Calls Tryz.prog 91 #[tv W H GA PA G.length gc P.length pc, .slice LA es.length lc] w fun e w' => e = .returned (.int .i64 (M.chk W H G P (es.map (·.s)))) ∧ Below w.heap.size w w' :=
  check_big W H GA PA gc pc G P LA lc es w hg hp hL hP hgl hpl' hl (fun e he => Nat.le_trans (hpl e he) (by omega))
theorem pl1b {s : St} {A : Option Addr} {c : Nat} (h : s.pat.length ≤ 9223372036854775807) : ∀ e ∈ ([⟨s, A, c⟩] : List SE), e.s.pat.length ≤ 9223372036854775807 := fun e he => by
  obtain rfl : e = ⟨s, A, c⟩ := by simpa using he
  exact h
theorem pl1 {s : St} {A : Option Addr} {c : Nat} (h : s.pat.length ≤ 1000) : ∀ e ∈ ([⟨s, A, c⟩] : List SE), e.s.pat.length ≤ 1000 := fun e he => by
  obtain rfl : e = ⟨s, A, c⟩ := by simpa using he
  exact h
theorem pats1 {w : World} {s : St} {A : Option Addr} {c : Nat} (h : Sl 1 icell w w.heap.size A s.pat) : Pats w [⟨s, A, c⟩] := fun e he => by
  obtain rfl : e = ⟨s, A, c⟩ := by simpa using he
  exact h
set_option maxHeartbeats 8000000 in
theorem area_big (W H : Int) (GA PA : Option Addr) (gc pc : Nat) (G P : List Int) (s : St) (A : Option Addr) (c : Nat) (w : World) (hg : Sl 1 icell w w.heap.size GA G) (hp : Sl 1 icell w w.heap.size PA P) (hS : Sl 1 icell w w.heap.size A s.pat)
    (hgl : G.length ≤ 9223372036854775807) (hpl' : P.length ≤ 9223372036854775807) (hpl : s.pat.length ≤ 9223372036854775807) (hok : M.okS W H G P s = false) :
    Calls Tryz.prog 48 #[tv W H GA PA G.length gc P.length pc, stv s A c] w fun e w' => e = .returned (.tuple #[.slice none 0 0, .int .i64 2]) ∧ Below w.heap.size w w' := by
  obtain ⟨V, HW, x0, x1, hB, -⟩ := boxes2 w #[.int .i64 W, .int .i64 H, .slice GA G.length gc, .slice PA P.length pc] 24 (stc s A c) 40
  obtain ⟨U, HU, u0, hBU, -⟩ := boxes1 V (stc s A c) 40
  have BU := after_ hB hBU
  have hL : Sl 8 secell U U.heap.size (some ⟨V.heap.size, 0, none⟩) [⟨s, A, c⟩] := Sl.of_box u0 rfl
  have hPs : Pats U [⟨s, A, c⟩] := pats1 ((hS.below BU).more BU.size)
  have HC : Hid (M.chk W H G P (([⟨s, A, c⟩] : List SE).map (·.s)) = 2) := Lib.hid (by unfold M.chk; rw [if_neg (by simp [hok])])
  obtain ⟨c0, c1, c2, c3⟩ := x0.c4
  obtain ⟨b0, b1, b2, b3, b4, b5, b6, b7⟩ := x1.c8
  have hV := HW.out
  have hU := HU.out
  go_enter Tryz.func48, Tryz.ntmps48
  go_wp2_with fail
  clear hV hU
  refine (check_big W H GA PA gc pc G P (some ⟨V.heap.size, 0, none⟩) 1 [⟨s, A, c⟩] U ((hg.below BU).more BU.size) ((hp.below BU).more BU.size) hL hPs hgl hpl' (by simp) (pl1b hpl)).mono ?_
  rintro e w1 ⟨rfl, hb1⟩
  rw [HC.out]
  go_wp2_with fail
  go_ret2
  exact ⟨rfl, after_ BU hb1⟩
theorem area_no (W H : Int) (GA PA : Option Addr) (gc pc : Nat) (G P : List Int) (s : St) (A : Option Addr) (c : Nat) (w : World) (hg : Sl 1 icell w w.heap.size GA G) (hp : Sl 1 icell w w.heap.size PA P) (hS : Sl 1 icell w w.heap.size A s.pat)
    (hgl : G.length ≤ 9223372036854775807) (hpl' : P.length ≤ 9223372036854775807) (hpl : s.pat.length ≤ 1000) (hok : M.okS W H G P s = false) :
    Calls Tryz.prog 48 #[tv W H GA PA G.length gc P.length pc, stv s A c] w fun e w' => e = .returned (.tuple #[.slice none 0 0, .int .i64 2]) ∧ Below w.heap.size w w' :=
  area_big W H GA PA gc pc G P s A c w hg hp hS hgl hpl' (Nat.le_trans hpl (by omega)) hok
theorem held12 {w' : World} {b0 b1 : Nat} {W H : Int} {GA PA : Option Addr} {gc pc : Nat} {G P : List Int} {s : St} {A : Option Addr} {c : Nat} (h0 : Box w' b0 #[.int .i64 W, .int .i64 H, .slice GA G.length gc, .slice PA P.length pc] 24) (h1 : Box w' b1 (stc s A c) 40) :
    w'.cell? ⟨b0, 0, none⟩ = some (.int .i64 W) ∧ w'.cell? ⟨b0, 1, none⟩ = some (.int .i64 H) ∧ w'.cell? ⟨b0, 2, none⟩ = some (.slice GA G.length gc) ∧ w'.cell? ⟨b0, 3, none⟩ = some (.slice PA P.length pc) ∧ w'.cell? ⟨b1, 0, none⟩ = some (.int .i64 s.id) ∧ w'.cell? ⟨b1, 1, none⟩ = some (.int .i64 s.x) ∧ w'.cell? ⟨b1, 2, none⟩ = some (.int .i64 s.y) ∧ w'.cell? ⟨b1, 3, none⟩ = some (.int .i64 s.pw) ∧ w'.cell? ⟨b1, 4, none⟩ = some (.int .i64 s.h) ∧ w'.cell? ⟨b1, 5, none⟩ = some (.slice A s.pat.length c) ∧ w'.cell? ⟨b1, 6, none⟩ = some (.int .i64 s.band) ∧ w'.cell? ⟨b1, 7, none⟩ = some (.int .i64 s.ch) := by
  obtain ⟨c0, c1, c2, c3⟩ := h0.c4
  obtain ⟨d0, d1, d2, d3, d4, d5, d6, d7⟩ := h1.c8
  exact ⟨c0, c1, c2, c3, d0, d1, d2, d3, d4, d5, d6, d7⟩
theorem flat_ints (xs : List Int) : flat 1 icell xs = xs.map encI := by
  induction xs with
  | nil => rfl
  | cons x xs ih => simp only [flat, List.flatMap_cons, List.map_cons] at *; rw [ih]; rfl
theorem collect_area {wa wc : World} {bt bs : Nat} {W H : Int} {GA PA : Option Addr} {gc pc : Nat} {G P : List Int} {s : St} {A : Option Addr} {c : Nat} (h : Capt wa bt bs W H GA PA gc pc G P s A c) (T : TypeId) (b1 b2 bq : Nat) (hq : bq = wa.heap.size) (hbc : Below (wa.alloc (.cells #[fv bt bs] T)).heap.size (wa.alloc (.cells #[fv bt bs] T)) wc)
    (hb1 : Box wc b1 #[.int .i64 W, .int .i64 H, .slice GA G.length gc, .slice PA P.length pc] 24) (hb2 : Box wc b2 #[.slice (some ⟨bq, 0, none⟩) 1 1] 158) (hok : M.okS W H G P s = true) (hN : (W * H).toNat ≤ 4096) :
    Calls Tryz.prog 92 #[cvv b1 b2] wc (RetS 1 icell wc (M.area W H G s)) := by
  subst hq
  have x : Box (wa.alloc (.cells #[fv bt bs] T)) wa.heap.size #[fv bt bs] T := Box.new _ _ _
  have hb0 : Below wa.heap.size wa (wa.alloc (.cells #[fv bt bs] T)) := (Below.refl _ _).alloc (Nat.le_refl _) _
  have hc := (h.below hb0).below hbc
  have hca : Sl 1 vcell wc wc.heap.size (some ⟨wa.heap.size, 0, none⟩) [fv bt bs] := Sl.of_box (x.below hbc) rfl
  have hseq := cells1_gives hc b1 b2 hb1 (some ⟨wa.heap.size, 0, none⟩) 1 hb2 hca hok
  refine Calls.mono (callsIn_wide.1 (collect_in Fence.wide 11 trivial trivial rfl (by decide) 122 _ trivial (enters_of Tryz.func122 (by kernel_rfl) rfl) _ _ (by unfold maxLen; omega) (by omega) wc hseq)) ?_
  rintro e wd ⟨v, ss, rfl, rfl, hrow, -, hbd⟩
  rw [← flat_ints] at hrow
  obtain ⟨A9, c9, rfl, hS9⟩ := own_slice (by decide) hrow
  exact ⟨A9, c9, rfl, hS9, hbd⟩
set_option maxHeartbeats 16000000 in
theorem area_ok (W H : Int) (GA PA : Option Addr) (gc pc : Nat) (G P : List Int) (s : St) (A : Option Addr) (c : Nat) (w : World) (ht : Tab w) (hg : Sl 1 icell w w.heap.size GA G) (hp : Sl 1 icell w w.heap.size PA P) (hS : Sl 1 icell w w.heap.size A s.pat) (hok : M.okS W H G P s = true) :
    Calls Tryz.prog 48 #[tv W H GA PA G.length gc P.length pc, stv s A c] w (RetL 1 icell w (M.area W H G s) 0) := by
  obtain ⟨V, HW, x0, x1, hB, -⟩ := boxes2 w #[.int .i64 W, .int .i64 H, .slice GA G.length gc, .slice PA P.length pc] 24 (stc s A c) 40
  obtain ⟨U, HU, u0, hBU, -⟩ := boxes1 V (stc s A c) 40
  have BU := after_ hB hBU
  have hL : Sl 8 secell U U.heap.size (some ⟨V.heap.size, 0, none⟩) [⟨s, A, c⟩] := Sl.of_box u0 rfl
  have hPs : Pats U [⟨s, A, c⟩] := pats1 ((hS.below BU).more BU.size)
  obtain ⟨hsv, htv, -, -⟩ := M.okS_iff.1 hok
  obtain ⟨r1, r2, r3, r4, -, -⟩ := M.tvalid_iff.1 htv
  obtain ⟨wh1, wh2⟩ := M.wh_le r1 r2
  have hp16 := (M.avalid_iff.1 (M.svalid_iff.1 hsv).2.2.2.2.2.2).2.1
  have HC : Hid (M.chk W H G P (([⟨s, A, c⟩] : List SE).map (·.s)) = 0) := Lib.hid (by unfold M.chk; rw [if_pos (by simp [hok, htv])])
  have hN : (W * H).toNat ≤ 4096 := by omega
  have hgl : G.length ≤ 5000 := by omega
  have hpl' : P.length ≤ 5000 := by omega
  have hpl : s.pat.length ≤ 1000 := by omega
  have HOK := Lib.hid hok
  clear hok hsv htv r1 r2 r3 r4 wh1 wh2 hp16
  obtain ⟨c0, c1, c2, c3⟩ := x0.c4
  obtain ⟨b0, b1, b2, b3, b4, b5, b6, b7⟩ := x1.c8
  have hV := HW.out
  have hU := HU.out
  go_enter Tryz.func48, Tryz.ntmps48
  go_wp2_with fail
  clear hV hU
  refine (check_any W H GA PA gc pc G P (some ⟨V.heap.size, 0, none⟩) 1 [⟨s, A, c⟩] U ((hg.below BU).more BU.size) ((hp.below BU).more BU.size) hL hPs (by omega) (by omega) (by simp) (pl1 hpl)).mono ?_
  rintro e w1 ⟨rfl, hb1⟩
  rw [HC.out]
  have B1 := after_ BU hb1
  have y0 : Box w1.drew w.heap.size #[.int .i64 W, .int .i64 H, .slice GA G.length gc, .slice PA P.length pc] 24 := (x0.below hBU).below hb1.drew
  have y1 : Box w1.drew (w.heap.size + 1) (stc s A c) 40 := (x1.below hBU).below hb1.drew
  have K0 := held12 y0 y1
  have Bd : Below w.heap.size w w1.drew := B1.drew
  have hgd := (hg.below Bd).more Bd.size
  have hpd := (hp.below Bd).more Bd.size
  have hsd := (hS.below Bd).more Bd.size
  have htd := ht.kept Bd
  have kA : ∀ wa, Below w1.drew.heap.size w1.drew wa → _ := fun wa hba => held12 (y0.below hba) (y1.below hba)
  have kB : ∀ wa o, Below w1.drew.heap.size w1.drew wa → _ := fun wa o hba => held12 ((y0.below hba).below ((Below.refl wa.heap.size wa).alloc (Nat.le_refl _) o)) ((y1.below hba).below ((Below.refl wa.heap.size wa).alloc (Nat.le_refl _) o))
  clear c0 c1 c2 c3 b0 b1 b2 b3 b4 b5 b6 b7
  go_wp2_with fail
  go_region_held3 (fun w' => w'.cell? ⟨w.heap.size, 0, none⟩ = some (.int .i64 W) ∧ w'.cell? ⟨w.heap.size, 1, none⟩ = some (.int .i64 H) ∧ w'.cell? ⟨w.heap.size, 2, none⟩ = some (.slice GA G.length gc) ∧ w'.cell? ⟨w.heap.size, 3, none⟩ = some (.slice PA P.length pc) ∧ w'.cell? ⟨w.heap.size + 1, 0, none⟩ = some (.int .i64 s.id) ∧ w'.cell? ⟨w.heap.size + 1, 1, none⟩ = some (.int .i64 s.x) ∧ w'.cell? ⟨w.heap.size + 1, 2, none⟩ = some (.int .i64 s.y) ∧ w'.cell? ⟨w.heap.size + 1, 3, none⟩ = some (.int .i64 s.pw) ∧ w'.cell? ⟨w.heap.size + 1, 4, none⟩ = some (.int .i64 s.h) ∧ w'.cell? ⟨w.heap.size + 1, 5, none⟩ = some (.slice A s.pat.length c) ∧ w'.cell? ⟨w.heap.size + 1, 6, none⟩ = some (.int .i64 s.band) ∧ w'.cell? ⟨w.heap.size + 1, 7, none⟩ = some (.int .i64 s.ch)) (first | exact K0 | exact kA _ (by assumption) | exact kB _ _ (by assumption))
    (first
      | (go_at_call 94; ((with_reducible refine (coveredBy_ok W H GA PA gc pc G P s A c _).mono ?_); rintro e wa ⟨rfl, hba, hsa, za, zb⟩; dsimp only [fv]))
      | (go_at_call 93; ((with_reducible refine (cells_ok W H GA PA gc pc G.length P.length _ 1 1 _).mono ?_); rintro e wc ⟨rfl, hbc, hsc, zc, zd⟩; have hbC := after_ (hba.alloc hba.size _) hbc; have hsa2 : wa.heap.size = w1.heap.size + 2 := hsa; rw [World.size_alloc, hsa2] at zc zd; have kk := collect_area (wa := wa) (bt := w1.heap.size) (bs := w1.heap.size + 1) (GA := GA) (PA := PA) (gc := gc) (pc := pc) (A := A) (c := c) ⟨za, zb, (hgd.below hba).more hba.size, (hpd.below hba).more hba.size, (hsd.below hba).more hba.size, htd.kept hba⟩ 137 (w1.heap.size + 2 + 1) (w1.heap.size + 2 + 1 + 1) (w1.heap.size + 2) hsa2.symm hbc zc zd HOK.out hN; dsimp only [cvv] at kk ⊢))
      | (go_at_call 92; ((with_reducible refine kk.mono ?_); rintro e wd ⟨A9, c9, rfl, hS9, hbd⟩; have hbD := after_ hbC hbd)))
  all_goals
    go_wp2_with fail
    go_ret2
    exact ⟨A9, c9, rfl, hS9, after_ Bd hbD⟩
end Go.Proofs.YtciolgmljpamlaaGreatDoor
end

section
namespace Go.Proofs.YtciolgmljpamlaaGreatDoor
open Go Go.RowKit Go.Shelf
set_option maxRecDepth 100000
theorem M.area_in {W H : Int} {G : List Int} {s : St} : ∀ x ∈ M.area W H G s, 0 ≤ x ∧ x < W * H := by
  intro x hx
  unfold M.area M.areaTo at hx
  obtain ⟨i, hi, rfl⟩ := List.mem_map.1 hx
  have := List.mem_range.1 (List.mem_filter.1 hi).1
  omega
theorem M.area_len {W H : Int} {G : List Int} {s : St} : (M.area W H G s).length ≤ (W * H).toNat := M.areaTo_len _ _ _ _
set_option maxHeartbeats 4000000 in
theorem people_ok (W H : Int) (GA PA : Option Addr) (gc pc : Nat) (G P : List Int) (s : St) (A : Option Addr) (c : Nat) (w : World) (ht : Tab w) (hg : Sl 1 icell w w.heap.size GA G) (hp : Sl 1 icell w w.heap.size PA P) (hS : Sl 1 icell w w.heap.size A s.pat) (hok : M.okS W H G P s = true) :
    Calls Tryz.prog 13 #[tv W H GA PA G.length gc P.length pc, stv s A c] w fun e w' => e = .returned (.tuple #[.int .i64 (M.total P (M.area W H G s)), .int .i64 0]) ∧ Below w.heap.size w w' := by
  obtain ⟨V, HW, x0, x1, hB, -⟩ := boxes2 w #[.int .i64 W, .int .i64 H, .slice GA G.length gc, .slice PA P.length pc] 24 (stc s A c) 40
  obtain ⟨-, htv, -, -⟩ := M.okS_iff.1 hok
  obtain ⟨r1, r2, -⟩ := M.tvalid_iff.1 htv
  obtain ⟨wh1, wh2⟩ := M.wh_le r1 r2
  have hal : (M.area W H G s).length ≤ 100000 := Nat.le_trans M.area_len (by omega)
  have HTV := Lib.hid htv
  clear htv r1 r2 wh1 wh2
  obtain ⟨c0, c1, c2, c3⟩ := x0.c4
  obtain ⟨b0, b1, b2, b3, b4, b5, b6, b7⟩ := x1.c8
  have hV := HW.out
  go_enter Tryz.func13, Tryz.ntmps13
  go_wp2_with fail
  clear hV c0 c1 c2 c3 b0 b1 b2 b3 b4 b5 b6 b7
  refine (area_ok W H GA PA gc pc G P s A c V (ht.kept hB) ((hg.below hB).more hB.size) ((hp.below hB).more hB.size) ((hS.below hB).more hB.size) hok).mono ?_
  rintro e w1 ⟨A1, c1, rfl, hS1, hb1⟩
  have B1 := after_ hB hb1
  obtain ⟨c0, c1, c2, c3⟩ := (x0.below hb1).c4
  go_wp2_with fail
  refine (tTotal_ok W H GA PA gc pc G P A1 _ (M.area W H G s) w1 ((hg.below B1).more B1.size) ((hp.below B1).more B1.size) hS1 HTV.out hal M.area_in).mono ?_
  rintro e w2 ⟨rfl, hb2⟩
  go_wp2_with fail
  go_ret2
  exact ⟨rfl, after_ B1 hb2⟩
set_option maxHeartbeats 4000000 in
theorem rAt_ok (W H : Int) (GA PA : Option Addr) (gl gc pl pc : Nat) (i : Nat) (w : World) (hW : 1 ≤ W ∧ W ≤ 64) (hi : (i : Int) ≤ 1000000) :
    Calls Tryz.prog 133 #[tv W H GA PA gl gc pl pc, .int .i64 i] w fun e w' => e = .returned (cv (M.cx W i) (M.cy W i)) ∧ Below w.heap.size w w' := by
  obtain ⟨V, HW, x0, x1, hB, hs⟩ := boxes2 w #[.int .i64 W, .int .i64 H, .slice GA gl gc, .slice PA pl pc] 24 #[.int .i64 0, .int .i64 0] 113
  have e1 : (i : Int).tmod W = M.cx W i := by unfold M.cx; exact Int.tmod_eq_emod_of_nonneg (by omega)
  have hcy : 0 ≤ M.cy W i ∧ M.cy W i ≤ 1000000 := by
    unfold M.cy
    have := Int.ediv_nonneg (a := (i : Int)) (b := W) (by omega) (by omega)
    have := Int.ediv_le_self (a := (i : Int)) W (by omega)
    omega
  have e2 : IntKind.i64.wrap ((i : Int) / W) = M.cy W i := wrap_small (z := M.cy W i) (by omega) (by omega)
  have E1 := Lib.hid e1
  have E2 := Lib.hid e2
  have HS := Lib.hid hs
  clear e1 e2 hs hcy
  obtain ⟨c0, c1, c2, c3⟩ := x0.c4
  clear c1 c2 c3
  have D0 : V.drew.cell? ⟨w.heap.size, 0, none⟩ = some (.int .i64 W) := c0
  have hW0 : W ≠ 0 := by omega
  have hne : w.heap.size ≠ w.heap.size + 1 := by omega
  have D1 : ∀ u v, ((V.drew.setCell ⟨w.heap.size + 1, 0, none⟩ u).setCell ⟨w.heap.size + 1, 1, none⟩ v).cell? ⟨w.heap.size, 0, none⟩ = some (.int .i64 W) := fun u v => ((x0.set_other (p := ⟨w.heap.size + 1, 0, none⟩) hne u).set_other (p := ⟨w.heap.size + 1, 1, none⟩) hne v).c4.1
  have f0 : V.drew.frozen? ⟨w.heap.size + 1, 0, none⟩ = false := x1.frozen 0
  have f1 : V.drew.frozen? ⟨w.heap.size + 1, 1, none⟩ = false := x1.frozen 1
  have f2 := x1.frozen 0
  have f3 := x1.frozen 1
  obtain ⟨g0, g1⟩ := x1.c2
  have G0 : V.drew.cell? ⟨w.heap.size + 1, 0, none⟩ = some (.int .i64 0) := g0
  have G1 : V.drew.cell? ⟨w.heap.size + 1, 1, none⟩ = some (.int .i64 0) := g1
  go_enter Tryz.func133, Tryz.ntmps133
  go_wp2_with fail
  rw [HW.out]
  go_region_held3 (fun w' => w'.cell? ⟨w.heap.size, 0, none⟩ = some (.int .i64 W)) (first | with_reducible exact D0 | with_reducible exact c0 | exact D1 _ _) (fail)
  all_goals
    rw [E1.out, E2.out]
    have z := (x1.set 0 (.int .i64 (M.cx W i))).set 1 (.int .i64 (M.cy W i))
    obtain ⟨z0, z1⟩ := z.c2
    have Z0 : ((V.drew.setCell ⟨w.heap.size + 1, 0, none⟩ (.int .i64 (M.cx W i))).setCell ⟨w.heap.size + 1, 1, none⟩ (.int .i64 (M.cy W i))).cell? ⟨w.heap.size + 1, 0, none⟩ = some (.int .i64 (M.cx W i)) := z0
    have Z1 : ((V.drew.setCell ⟨w.heap.size + 1, 0, none⟩ (.int .i64 (M.cx W i))).setCell ⟨w.heap.size + 1, 1, none⟩ (.int .i64 (M.cy W i))).cell? ⟨w.heap.size + 1, 1, none⟩ = some (.int .i64 (M.cy W i)) := z1
    go_wp2_with fail
    refine bodyPost_ret (v := cv (M.cx W i) (M.cy W i)) ?_ rfl ⟨rfl, ?_⟩
    · simp [results, Tryz.results133, go_sem, z0, z1]
    · exact (hB.drew.setCell (p := ⟨w.heap.size + 1, 0, none⟩) (by dsimp only; omega) _).setCell (p := ⟨w.heap.size + 1, 1, none⟩) (by dsimp only; omega) _
theorem rThr_ok (b : Int) (w : World) (h : b = 1 ∨ b = 2 ∨ b = 3) : Calls Tryz.prog 173 #[.int .i64 b] w fun e w' => e = .returned (.int .i64 (M.thr b)) ∧ Below w.heap.size w w' := by
  obtain ⟨V, HW, x0, hB, -⟩ := boxes1 w #[.int .i64 0, .int .i64 56, .int .i64 72, .int .i64 82] 3
  obtain ⟨c0, c1, c2, c3⟩ := x0.c4
  have hV := HW.out
  rcases h with rfl | rfl | rfl
  all_goals
    go_enter Tryz.func173, Tryz.ntmps173
    go_wp2_with fail
    go_ret
    exact ⟨rfl, hB⟩
set_option maxHeartbeats 4000000 in
theorem rCovers_ok (W H : Int) (GA PA : Option Addr) (gc pc : Nat) (G P : List Int) (s : St) (A : Option Addr) (c : Nat) (cx cy : Int) (w : World) (hg : Sl 1 icell w w.heap.size GA G) (hS : Sl 1 icell w w.heap.size A s.pat)
    (hok : M.okF W H G P s cx cy = true) : Calls Tryz.prog 132 #[tv W H GA PA G.length gc P.length pc, stv s A c, cv cx cy] w fun e w' => e = .returned (.bool (M.cov W G s cx cy)) ∧ Below w.heap.size w w' := by
  obtain ⟨V, HW, x0, x1, x2, hB, -⟩ := boxes3 w #[.int .i64 W, .int .i64 H, .slice GA G.length gc, .slice PA P.length pc] 24 (stc s A c) 40 #[.int .i64 cx, .int .i64 cy] 113
  have hbd := M.band_in (M.okF_valid hok)
  obtain ⟨r, HR⟩ : ∃ r, Hid (M.cov W G s cx cy = r) := ⟨_, Lib.hid rfl⟩
  have HQ : Hid (decide (M.thr s.band ≤ M.field W G s cx cy) = r) := Lib.hid HR.out
  rw [HR.out]
  obtain ⟨c0, c1, c2, c3⟩ := x0.c4
  obtain ⟨b0, b1, b2, b3, b4, b5, b6, b7⟩ := x1.c8
  obtain ⟨d0, d1⟩ := x2.c2
  have l0 := x0.lt
  have l1 := x1.lt
  have l2 := x2.lt
  have hg1 := (hg.below hB).more hB.size
  have hS1 := (hS.below hB).more hB.size
  have kF : Hid (∀ w1, Sl 1 icell w1 w1.heap.size GA G → Sl 1 icell w1 w1.heap.size A s.pat → Calls Tryz.prog 171 #[tv W H GA PA G.length gc P.length pc, stv s A c, cv cx cy] w1 fun e w' => e = .returned (.int .i64 (M.field W G s cx cy)) ∧ Below w1.heap.size w1 w') := Lib.hid (fun w1 h1 h2 => rField_ok W H GA PA gc pc G P s A c cx cy w1 h1 h2 hok)
  go_enter Tryz.func132, Tryz.ntmps132
  go_wp2_with fail
  rw [HW.out]
  refine wp_region_kept V.heap.size V (by kernel_rfl) (by kernel_rfl) (Below.refl _ _) ?_
  repeat (go_big_quiet_step ((first | (go_at_call 171; exact Kept.calls (Nat.le_refl _) (kF.out _ hg1.kept hS1.kept)) | (go_at_call 173; exact Kept.calls (Nat.le_refl _) (rThr_ok s.band _ hbd)))))
  refine wpQuiet_nil ?_
  rintro w1 ⟨⟨_, hb1⟩, rfl⟩
  go_wp2_with fail
  go_ret
  exact ⟨ret_bool HQ.out, after_ hB hb1⟩
set_option maxHeartbeats 8000000 in
theorem rArea_ok (W H : Int) (GA PA : Option Addr) (gc pc : Nat) (G P : List Int) (s : St) (A : Option Addr) (c : Nat) (w : World) (hg : Sl 1 icell w w.heap.size GA G) (hS : Sl 1 icell w w.heap.size A s.pat) (hok : M.okS W H G P s = true) :
    Calls Tryz.prog 105 #[tv W H GA PA G.length gc P.length pc, stv s A c] w (RetS 1 icell w (M.area W H G s)) := by
  obtain ⟨V, HW, x0, x1, hB, -⟩ := boxes2 w #[.int .i64 W, .int .i64 H, .slice GA G.length gc, .slice PA P.length pc] 24 (stc s A c) 40
  obtain ⟨i0, hi, hz0, hz1, hz2⟩ := info_parts intInfo
  have Hi := Lib.hid hi; have Hz0 := Lib.hid hz0; have Hz1 := Lib.hid hz1; have Hz2 := Lib.hid hz2
  clear hi hz0 hz1 hz2
  obtain ⟨-, htv, -, -⟩ := M.okS_iff.1 hok
  obtain ⟨r1, r2, -⟩ := M.tvalid_iff.1 htv
  obtain ⟨wh1, wh2⟩ := M.wh_le r1 r2
  obtain ⟨n, hn⟩ : ∃ n : Nat, W * H = n := ⟨(W * H).toNat, by omega⟩
  have HA : Hid (M.area W H G s = M.areaTo W G s n) := Lib.hid (by unfold M.area; rw [show (W * H).toNat = n by omega])
  have HOK := Lib.hid hok
  clear hok htv
  rw [HA.out]
  go_enter Tryz.func105, Tryz.ntmps105
  go_wp2_with fail
  rw [HW.out]
  go_loopw [5, 6] (fun out i wr => ∃ k : Nat, k ≤ n ∧ i = .int .i64 k ∧ Below w.heap.size w wr ∧ Below V.heap.size V wr ∧ wr.ownsRow V.heap.size 3 1 out (M.areaTo W G s k).length (flat 1 icell (M.areaTo W G s k))) (fun _ i _ => n - (intOf i).toNat)
  case atStart => exact ⟨0, Nat.zero_le _, rfl, hB, Below.refl _ _, own_nil _ _ _ _ _⟩
  case round =>
    obtain ⟨k, hk, rfl, hBw, hBr, hown⟩ := hrel
    have y0 := x0.below hBr
    have y1 := x1.below hBr
    obtain ⟨c0, c1, c2, c3⟩ := y0.c4
    have hmul : W * H = (n : Int) := hn
    by_cases hlt : k < n
    · obtain ⟨hcx, hcy⟩ := M.cell_in (W := W) (H := H) (i := k) (by omega) (by omega)
      have hoF := M.okS_F HOK.out hcx.1 hcx.2 hcy.1 hcy.2
      obtain ⟨b0, b1, b2, b3, b4, b5, b6, b7⟩ := y1.c8
      have l0 := y0.lt
      have l1 := y1.lt
      have hg1 := (hg.below hBw).more hBw.size
      have hS1 := (hS.below hBw).more hBw.size
      have hal := M.areaTo_len W G s k
      have HSC := Lib.hid (M.areaTo_succ W G s k)
      obtain ⟨r, HR⟩ : ∃ r, Hid (M.cov W G s (M.cx W k) (M.cy W k) = r) := ⟨_, Lib.hid rfl⟩
      rw [HR.out] at HSC
      have kC : Hid (∀ w1, Sl 1 icell w1 w1.heap.size GA G → Sl 1 icell w1 w1.heap.size A s.pat → Calls Tryz.prog 132 #[tv W H GA PA G.length gc P.length pc, stv s A c, cv (M.cx W k) (M.cy W k)] w1 fun e w' => e = .returned (.bool r) ∧ Below w1.heap.size w1 w') := Lib.hid (fun w1 h1 h2 => by rw [← HR.out]; exact rCovers_ok W H GA PA gc pc G P s A c _ _ w1 h1 h2 hoF)
      have kA : Hid (∀ w1, Calls Tryz.prog 133 #[tv W H GA PA G.length gc P.length pc, .int .i64 k] w1 fun e w' => e = .returned (cv (M.cx W k) (M.cy W k)) ∧ Below w1.heap.size w1 w') := Lib.hid (fun w1 => rAt_ok W H GA PA G.length gc P.length pc k w1 r1 (by omega))
      clear hoF
      go_wp2_with fail
      refine wp_region_kept wr.heap.size wr (by kernel_rfl) (by kernel_rfl) (Below.refl _ _) ?_
      repeat (go_big_quiet_step ((first | (go_at_call 132; exact Kept.calls (Nat.le_refl _) (kC.out _ hg1.kept hS1.kept)) | (go_at_call 133; exact Kept.calls (Nat.le_refl _) (kA.out _)))))
      refine wpQuiet_nil ?_
      rintro w5 ⟨⟨_, hb5⟩, rfl⟩
      have hown5 := own_below hown hb5
      have B5 := after_ hBr hb5
      have Bw5 := after_ hBw hb5
      clear kC kA
      cases r
      · have HS2 := Lib.hid (HSC.out.trans (by simp : _ = M.areaTo W G s k))
        go_wp2_with fail
        go_roundw
        case rel => exact ⟨k + 1, hlt, by go_num, Bw5, B5, by rw [HS2.out]; exact hown5⟩
        case measure => simp [intOf]; omega
      · have HS2 := Lib.hid (HSC.out.trans (by simp : _ = M.areaTo W G s k ++ [(k : Int)]))
        go_wp2_with (at_builtin; refine wpList_push (w0 := V) (cell := icell) (y := (k : Int)) rfl _ _ _ rfl V.heap.size V.heap.size 3 i0 _ 8 Tryz.underlying22 Hi.out Hz0.out Hz1.out Hz2.out rfl (by decide) _ _ _ rfl hown5 _ _ rfl _ rfl (fun _ => rfl) (by unfold maxLen; omega) (by omega) B5.size (Nat.le_refl _) B5 ?_; intro v' w' hown' hb' _)
        go_roundw
        case rel => exact ⟨k + 1, hlt, by go_num, hB.trans (hb'.mono hB.size), hb', by rw [HS2.out, List.length_append]; exact hown'⟩
        case measure => simp [intOf]; omega
    · obtain rfl : k = n := by omega
      obtain ⟨A9, c9, rfl, hS9⟩ := own_slice (by decide) hown
      go_wp2_with fail
      go_ret
      exact ⟨A9, c9, rfl, hS9, hBw⟩
end Go.Proofs.YtciolgmljpamlaaGreatDoor
end

section
namespace Go.Proofs.YtciolgmljpamlaaGreatDoor
open Go Go.RowKit
set_option maxRecDepth 100000
def M.both (a b : List Int) : List Int := a.flatMap fun x => b.filter fun y => decide (y = x)
set_option maxHeartbeats 16000000 in
theorem rTot_ok (W H : Int) (GA PA : Option Addr) (gc pc gl : Nat) (P : List Int) (A : Option Addr) (c : Nat) (l : List Int) (w : World) (hp : Sl 1 icell w w.heap.size PA P) (hl : Sl 1 icell w w.heap.size A l) (hW : 1 ≤ W ∧ W ≤ 64) (hH : 1 ≤ H ∧ H ≤ 64) (hPl : (P.length : Int) = W * H) (hPv : ∀ g ∈ P, 0 ≤ g ∧ g ≤ 1000000) (hlen : l.length ≤ 100000) (hin : ∀ x ∈ l, 0 ≤ x ∧ x < W * H) :
    Calls Tryz.prog 130 #[tv W H GA PA gl gc P.length pc, .slice A l.length c] w fun e w' => e = .returned (.tuple #[.int .i64 (M.total P l), .bool true]) ∧ Below w.heap.size w w' := by
  obtain ⟨V, HW, x0, hB, -⟩ := boxes1 w #[.int .i64 W, .int .i64 H, .slice GA gl gc, .slice PA P.length pc] 24
  obtain ⟨wh1, wh2⟩ := M.wh_le hW hH
  obtain ⟨n, hn⟩ : ∃ n : Nat, W * H = n := ⟨(W * H).toNat, by omega⟩
  have HIN : Hid (∀ k (hk : k < l.length), ∃ i : Nat, l[k] = (i : Int) ∧ i < n) := Lib.hid (fun k hk => by
    have := hin l[k] (List.getElem_mem hk)
    exact ⟨l[k].toNat, by omega, by omega⟩)
  have HPL : Hid (P.length = n ∧ ∀ g ∈ P, 0 ≤ g ∧ g ≤ 1000000) := Lib.hid ⟨by omega, hPv⟩
  have hn4 : n ≤ 4096 := by omega
  have hmul : W * H = (n : Int) := hn
  clear hin hPl hPv
  go_enter Tryz.func130, Tryz.ntmps130
  go_wp2_with fail
  rw [HW.out]
  go_loopw [6, 7, 8, 9] (fun t i _ _ wr => ∃ k : Nat, k ≤ l.length ∧ i = .int .i64 k ∧ t = .int .i64 (M.totTo P l k) ∧ Below w.heap.size w wr ∧ Below V.heap.size V wr) (fun _ i _ _ _ => l.length - (intOf i).toNat)
  case atStart => exact ⟨0, Nat.zero_le _, rfl, rfl, hB, Below.refl _ _⟩
  case round =>
    obtain ⟨k, hk, rfl, rfl, hBw, hBr⟩ := hrel
    by_cases hlt : k < l.length
    · have q7 : decide ((k : Int) < (l.length : Int)) = true := decide_eq_true (by omega)
      obtain ⟨i, hie, hin⟩ := HIN.out k hlt
      have y0 := x0.below hBr
      have l0 := y0.lt
      have L1 := (hl.below hBw).more hBw.size
      obtain ⟨la, rfl, hlb, a0⟩ := L1.one_at hlt
      have hlbA : (la.add k).block < wr.heap.size := by first | exact hlb | (rw [add_block]; exact hlb)
      simp only [icell] at a0
      rw [hie] at a0
      obtain ⟨c0, c1, c2, c3⟩ := y0.c4
      have HTS := Lib.hid (M.totTo_succ (P := P) hlt)
      rw [hie] at HTS
      have htb := M.totTo_bd (l := l) HPL.out.2 k
      have HIE := Lib.hid hie
      clear hie
      have q1 : decide ((i : Int) < 0) = false := decide_eq_false (by omega)
      have q2 : decide ((n : Int) ≤ (i : Int)) = false := decide_eq_false (by omega)
      go_wp2_with fail
      refine wp_region_kept wr.heap.size wr (by kernel_rfl) (by kernel_rfl) (Below.refl _ _) ?_
      repeat (go_big_quiet_step (fail))
      refine wpQuiet_nil ?_
      rintro w5 ⟨⟨_, hb5⟩, rfl⟩
      have B5 := after_ hBw hb5
      have BV5 := after_ hBr hb5
      clear c0 c1 c2 c3 a0 q1 q2
      go_wp2_with fail
      go_loopw [8, 9] (fun g j wq => ∃ m : Nat, m ≤ k ∧ j = .int .i64 m ∧ Below w.heap.size w wq ∧ Below V.heap.size V wq ∧ ∃ b, g = .bool b ∧ Hid (b = decide ((i : Int) ∈ l.take m))) (fun _ j _ => k - (intOf j).toNat)
      case atStart => exact ⟨0, Nat.zero_le _, rfl, B5, BV5, false, rfl, Lib.hid (by simp)⟩
      case round =>
        obtain ⟨m, hm, rfl, hBq, hBVq, b, rfl, HB⟩ := hrel
        have L2 := (hl.below hBq).more hBq.size
        obtain ⟨la', e', hlb', a0⟩ := L2.one_at hlt
        obtain rfl := Option.some.inj e'
        clear e'
        have hlbA' : (la.add k).block < wr.heap.size := by first | exact hlb' | (rw [add_block]; exact hlb')
        simp only [icell] at a0
        rw [HIE.out] at a0
        by_cases hmk : m < k
        · have hml : m < l.length := by omega
          obtain ⟨la'', e', hlb'', b0⟩ := L2.one_at hml
          obtain rfl := Option.some.inj e'
          clear e'
          have hlbB' : (la.add m).block < wr.heap.size := by first | exact hlb'' | (rw [add_block]; exact hlb'')
          simp only [icell] at b0
          have HN : Hid (∀ b', b' = (b || decide (l[m] = (i : Int))) → b' = decide ((i : Int) ∈ l.take (m + 1))) := Lib.hid (fun b' h => by
            rw [h, HB.out, List.take_succ_eq_append_getElem hml]
            rw [Bool.eq_iff_iff, Bool.or_eq_true, decide_eq_true_eq, decide_eq_true_eq, decide_eq_true_eq, List.mem_append, List.mem_singleton]
            exact or_congr Iff.rfl eq_comm)
          generalize l[m] = y at *
          cases b
          · by_cases he : y = (i : Int)
            · have q : (y == (i : Int)) = true := by simp [he]
              have HN2 := Lib.hid (HN.out true (by simp [he]))
              clear he
              go_wp2_with fail
              refine wp_region_kept wr.heap.size wr (by kernel_rfl) (by kernel_rfl) (Below.refl _ _) ?_
              repeat (go_big_quiet_step (fail))
              refine wpQuiet_nil ?_
              rintro w6 ⟨⟨_, hb6⟩, rfl⟩
              go_wp2_with fail
              go_roundw
              case rel => exact ⟨m + 1, hmk, by go_num, after_ hBq hb6, after_ hBVq hb6, true, rfl, HN2⟩
              case measure => simp [intOf]; omega
            · have q : (y == (i : Int)) = false := by simp [he]
              have HN2 := Lib.hid (HN.out false (by simp [he]))
              clear he
              go_wp2_with fail
              refine wp_region_kept wr.heap.size wr (by kernel_rfl) (by kernel_rfl) (Below.refl _ _) ?_
              repeat (go_big_quiet_step (fail))
              refine wpQuiet_nil ?_
              rintro w6 ⟨⟨_, hb6⟩, rfl⟩
              go_wp2_with fail
              go_roundw
              case rel => exact ⟨m + 1, hmk, by go_num, after_ hBq hb6, after_ hBVq hb6, false, rfl, HN2⟩
              case measure => simp [intOf]; omega
          · have HN2 := Lib.hid (HN.out true (by simp))
            go_wp2_with fail
            refine wp_region_kept wr.heap.size wr (by kernel_rfl) (by kernel_rfl) (Below.refl _ _) ?_
            repeat (go_big_quiet_step (fail))
            refine wpQuiet_nil ?_
            rintro w6 ⟨⟨_, hb6⟩, rfl⟩
            go_wp2_with fail
            go_roundw
            case rel => exact ⟨m + 1, hmk, by go_num, after_ hBq hb6, after_ hBVq hb6, true, rfl, HN2⟩
            case measure => simp [intOf]; omega
        · obtain rfl : m = k := by omega
          cases b
          · have hmem : ¬ (i : Int) ∈ l.take m := by have := HB.out; rw [eq_comm, decide_eq_false_iff_not] at this; exact this
            have hpi : i < P.length := by have := HPL.out.1; omega
            have HT2 : Hid (M.totTo P l (m + 1) = M.totTo P l m + P[i]) := Lib.hid (by rw [HTS.out, if_neg hmem]; simp [hpi])
            have z0 := x0.below hBVq
            have l0' := z0.lt
            obtain ⟨c0, c1, c2, c3⟩ := z0.c4
            obtain ⟨pa, rfl, hpb, p0⟩ := ((hp.below hBq).more hBq.size).one_at hpi
            have hpbA : (pa.add i).block < wr.heap.size := by first | exact hpb | (rw [add_block]; exact hpb)
            have hpv := HPL.out.2 P[i] (List.getElem_mem hpi)
            simp only [icell] at p0
            generalize P[i] = pv at *
            clear hmem
            go_wp2_with fail
            refine wp_region_kept wr.heap.size wr (by kernel_rfl) (by kernel_rfl) (Below.refl _ _) ?_
            repeat (go_big_quiet_step (fail))
            refine wpQuiet_nil ?_
            rintro w6 ⟨⟨_, hb6⟩, rfl⟩
            go_wp2_with fail
            go_roundw
            case rel => exact ⟨m + 1, hlt, by go_num, by rw [HT2.out], after_ hBq hb6, after_ hBVq hb6⟩
            case measure => simp [intOf]; omega
          · have hmem : (i : Int) ∈ l.take m := by have := HB.out; rw [eq_comm, decide_eq_true_eq] at this; exact this
            have HT2 : Hid (M.totTo P l (m + 1) = M.totTo P l m) := Lib.hid (by rw [HTS.out, if_pos hmem]; omega)
            clear hmem
            go_wp2_with fail
            go_roundw
            case rel => exact ⟨m + 1, hlt, by go_num, by rw [HT2.out], hBq, hBVq⟩
            case measure => simp [intOf]; omega
    · obtain rfl : k = l.length := by omega
      go_wp2_with fail
      go_ret2
      exact ⟨rfl, hBw⟩
end Go.Proofs.YtciolgmljpamlaaGreatDoor
end

section
namespace Go.Proofs.YtciolgmljpamlaaGreatDoor
open Go Go.RowKit
set_option maxRecDepth 100000
def M.okOff (o : Int) : Bool := decide (-1 ≤ o ∧ o ≤ 1)
def M.ratio (o : Int) : Int := if o = 0 then 30 else -46
theorem M.okOff_iff {o : Int} : M.okOff o = true ↔ o = 0 ∨ o = -1 ∨ o = 1 := by unfold M.okOff; rw [decide_eq_true_eq]; omega
theorem ratio_ok (o : Int) (w : World) (h : M.okOff o = true) : Calls Tryz.prog 167 #[.int .i64 o] w fun e w' => e = .returned (.tuple #[.int .i64 (M.ratio o), .int .i64 0]) ∧ w = w' := by
  rcases M.okOff_iff.1 h with rfl | rfl | rfl
  all_goals
    go_enter Tryz.func167, Tryz.ntmps167
    go_wp2_with fail
    go_ret2
    exact ⟨rfl, rfl⟩
theorem ratio_no (o : Int) (w : World) (h : M.okOff o = false) : Calls Tryz.prog 167 #[.int .i64 o] w fun e w' => e = .returned (.tuple #[.int .i64 0, .int .i64 2]) ∧ w = w' := by
  have h2 : ¬ (o = 0 ∨ o = -1 ∨ o = 1) := fun e => by rw [M.okOff_iff.2 e] at h; cases h
  have q0 : (o == 0) = false := by rw [beq_eq_false_iff_ne]; omega
  have q1 : (o == -1) = false := by rw [beq_eq_false_iff_ne]; omega
  have q2 : (o == 1) = false := by rw [beq_eq_false_iff_ne]; omega
  clear h h2
  go_enter Tryz.func167, Tryz.ntmps167
  go_wp2_with fail
  go_ret2
  exact ⟨rfl, rfl⟩
theorem rRatio_ok (o : Int) (w : World) : Calls Tryz.prog 172 #[.int .i64 o] w fun e w' => e = .returned (.int .i64 (M.ratio o)) ∧ w = w' := by
  by_cases h : o = 0
  · subst h
    go_enter Tryz.func172, Tryz.ntmps172
    go_wp2_with fail
    go_ret
    exact ⟨rfl, rfl⟩
  · have q : (o == 0) = false := by simp [h]
    have HF : Hid (-46 = M.ratio o) := Lib.hid (by unfold M.ratio; rw [if_neg h])
    clear h
    go_enter Tryz.func172, Tryz.ntmps172
    go_wp2_with fail
    go_ret
    exact ⟨ret_int HF.out, rfl⟩
theorem own_any (s : St) (A : Option Addr) (c : Nat) (w : World) : Calls Tryz.prog 191 #[stv s A c] w fun e w' => e = .returned (cv s.x s.y) ∧ Below w.heap.size w w' := by
  obtain ⟨id, x, y, pw, h, pat, bd, ch⟩ := s
  go_enter Tryz.func191, Tryz.ntmps191
  go_wp2_with fail
  exact bodyPost_ret (v := cv x y) (by simp [results, Tryz.results191, go_sem]) rfl ⟨rfl, ((Below.refl w.heap.size w).alloc (Nat.le_refl _) _).alloc (by simp) _⟩
theorem M.okS_eq {W H : Int} {G P : List Int} {s : St} : M.okS W H G P s = (M.svalid s && M.has W H G P s.x s.y) := by
  unfold M.okS
  rw [M.okF_eq]
  cases M.svalid s <;> cases M.has W H G P s.x s.y <;> rfl
set_option maxHeartbeats 8000000 in
theorem icheck_any (W H : Int) (GA PA : Option Addr) (gc pc : Nat) (G P : List Int) (s : St) (A : Option Addr) (c : Nat) (w : World) (hg : Sl 1 icell w w.heap.size GA G) (hp : Sl 1 icell w w.heap.size PA P) (hS : Sl 1 icell w w.heap.size A s.pat)
    (hgl : G.length ≤ 9223372036854775807) (hpl : P.length ≤ 9223372036854775807) (hl : s.pat.length ≤ 9223372036854775807) :
    Calls Tryz.prog 168 #[tv W H GA PA G.length gc P.length pc, stv s A c] w fun e w' => e = .returned (.int .i64 (if M.okS W H G P s then 0 else 2)) ∧ Below w.heap.size w w' := by
  obtain ⟨V, HW, x0, x1, hB, -⟩ := boxes2 w #[.int .i64 W, .int .i64 H, .slice GA G.length gc, .slice PA P.length pc] 24 (stc s A c) 40
  have hg1 := (hg.below hB).more hB.size
  have hp1 := (hp.below hB).more hB.size
  have hS1 := (hS.below hB).more hB.size
  obtain ⟨c0, c1, c2, c3⟩ := x0.c4
  obtain ⟨b0, b1, b2, b3, b4, b5, b6, b7⟩ := x1.c8
  have l0 := x0.lt
  have l1 := x1.lt
  obtain ⟨p, hp'⟩ : ∃ p, M.svalid s = p := ⟨_, rfl⟩
  obtain ⟨q, hq'⟩ : ∃ q, M.has W H G P s.x s.y = q := ⟨_, rfl⟩
  rw [M.okS_eq, hp', hq']
  have kV : Hid (∀ w1, Sl 1 icell w1 w1.heap.size A s.pat → Calls Tryz.prog 120 #[stv s A c] w1 fun e w' => e = .returned (.bool p) ∧ Below w1.heap.size w1 w') := Lib.hid (fun w1 hh => by rw [← hp']; exact sValid_any s A c w1 hh hl)
  have kH : Hid (∀ w1, Sl 1 icell w1 w1.heap.size GA G → Sl 1 icell w1 w1.heap.size PA P → Calls Tryz.prog 190 #[tv W H GA PA G.length gc P.length pc, cv s.x s.y] w1 fun e w' => e = .returned (.bool q) ∧ Below w1.heap.size w1 w') := Lib.hid (fun w1 hh hk => by rw [← hq']; exact has_any W H GA PA gc pc G P s.x s.y w1 hh hk hgl hpl)
  clear hp' hq'
  cases p <;> cases q
  all_goals
    go_enter Tryz.func168, Tryz.ntmps168
    go_wp2_with fail
    rw [HW.out]
    refine wp_region_kept V.heap.size V (by kernel_rfl) (by kernel_rfl) (Below.refl _ _) ?_
    repeat (go_big_quiet_step ((first | (go_at_call 120; exact Kept.calls (Nat.le_refl _) (kV.out _ hS1.kept)) | (go_at_call 191; exact Kept.calls (Nat.le_refl _) (own_any s A c _)) | (go_at_call 190; exact Kept.calls (Nat.le_refl _) (kH.out _ hg1.kept hp1.kept)))))
    refine wpQuiet_nil ?_
    rintro w1 ⟨⟨_, hb1⟩, rfl⟩
    go_wp2_with fail
    go_ret
    exact ⟨rfl, after_ hB hb1⟩
def M.dist (W : Int) (G : List Int) (a : St) (r cx cy : Int) (l : List St) : Bool := l.any fun b => decide (M.field W G a cx cy - M.field W G b cx cy < r)
set_option maxHeartbeats 8000000 in
theorem disturbed_ok (W H : Int) (GA PA : Option Addr) (gc pc : Nat) (G P : List Int) (a : St) (A : Option Addr) (c : Nat) (r cx cy : Int) (LA : Option Addr) (lc : Nat) (es : List SE) (w : World) (ht : Tab w) (hg : Sl 1 icell w w.heap.size GA G) (hp : Sl 1 icell w w.heap.size PA P) (hS : Sl 1 icell w w.heap.size A a.pat) (hL : Sl 8 secell w w.heap.size LA es) (hP : Pats w es)
    (hl : es.length ≤ 1000) (hok : M.okF W H G P a cx cy = true) (hoks : ∀ e ∈ es, M.okF W H G P e.s cx cy = true) :
    Calls Tryz.prog 170 #[tv W H GA PA G.length gc P.length pc, stv a A c, .int .i64 r, cv cx cy, .slice LA es.length lc] w fun e w' => e = .returned (.tuple #[.bool (M.dist W G a r cx cy (es.map (·.s))), .int .i64 0]) ∧ Below w.heap.size w w' := by
  obtain ⟨V, HW, x0, x1, x2, hB, -⟩ := boxes3 w #[.int .i64 W, .int .i64 H, .slice GA G.length gc, .slice PA P.length pc] 24 (stc a A c) 40 #[.int .i64 cx, .int .i64 cy] 113
  have HOKS := Lib.hid hoks
  have hfa := M.field_bd hok
  obtain ⟨d, hd⟩ : ∃ d, M.dist W G a r cx cy (es.map (·.s)) = d := ⟨_, rfl⟩
  have HY : Hid (∀ k (hk : k < es.length), M.field W G a cx cy - M.field W G es[k].s cx cy < r → true = d) := Lib.hid (fun k hk h => by
    rw [← hd]; unfold M.dist; symm
    rw [List.any_eq_true]
    exact ⟨es[k].s, List.mem_map.2 ⟨_, List.getElem_mem hk, rfl⟩, by simpa using h⟩)
  have HN : Hid ((∀ k (hk : k < es.length), r ≤ M.field W G a cx cy - M.field W G es[k].s cx cy) → false = d) := Lib.hid (fun h => by
    rw [← hd]; unfold M.dist; symm
    rw [List.any_eq_false]
    intro s hs
    obtain ⟨e, he, rfl⟩ := List.mem_map.1 hs
    obtain ⟨j, hj, rfl⟩ := List.getElem_of_mem he
    simpa using h j hj)
  rw [hd]
  clear hd hoks
  obtain ⟨fa, HFA⟩ : ∃ fa, Hid (M.field W G a cx cy = fa) := ⟨_, Lib.hid rfl⟩
  rw [HFA.out] at HY HN hfa
  obtain ⟨c0, c1, c2, c3⟩ := x0.c4
  obtain ⟨b0, b1, b2, b3, b4, b5, b6, b7⟩ := x1.c8
  obtain ⟨d0, d1⟩ := x2.c2
  have hV := HW.out
  go_enter Tryz.func170, Tryz.ntmps170
  go_wp2_with fail
  clear hV c0 c1 c2 c3 b0 b1 b2 b3 b4 b5 b6 b7 d0 d1
  refine (field_ok W H GA PA gc pc G P a A c cx cy V (ht.kept hB) ((hg.below hB).more hB.size) ((hp.below hB).more hB.size) ((hS.below hB).more hB.size) hok).mono ?_
  rintro e w1 ⟨rfl, hb1⟩
  rw [HFA.out]
  have B1 := after_ hB hb1
  have y0 := x0.below hb1
  have y2 := x2.below hb1
  go_wp2_with fail
  go_loopw [15, 16, 17, 30] (fun _ _ _ i wr => ∃ k : Nat, k ≤ es.length ∧ i = .int .i64 k ∧ Below w.heap.size w wr ∧ Below w1.heap.size w1 wr ∧ Hid (∀ j (hj : j < es.length), j < k → r ≤ fa - M.field W G es[j].s cx cy)) (fun _ _ _ i _ => es.length - (intOf i).toNat)
  case atStart => exact ⟨0, Nat.zero_le _, rfl, B1, Below.refl _ _, Lib.hid (fun j _ h => absurd h (by omega))⟩
  case round =>
    obtain ⟨k, hk, rfl, hBw, hBr, HK⟩ := hrel
    by_cases hlt : k < es.length
    · obtain ⟨la, rfl, hlb, a0, a1, a2, a3, a4, a5, a6, a7⟩ := (hL.below hBw).st8 hlt
      have hSk := (hP.below hBw).at_ hlt
      have hok2 := HOKS.out _ (List.getElem_mem hlt)
      have hfb := M.field_bd hok2
      have HYk := Lib.hid (HY.out k hlt)
      have HK2 : Hid (r ≤ fa - M.field W G es[k].s cx cy → ∀ j (hj : j < es.length), j < k + 1 → r ≤ fa - M.field W G es[j].s cx cy) := Lib.hid (fun h j h1 h3 => by
        by_cases e : j = k
        · subst e; exact h
        · exact HK.out j h1 (by omega))
      generalize es[k] = ek at *
      obtain ⟨s, A', c'⟩ := ek
      simp only at a0 a1 a2 a3 a4 a5 a6 a7 hSk hok2 hfb HYk HK2
      obtain ⟨U, HU, u0, hBU, -⟩ := boxes1 wr (stc s A' c') 40
      obtain ⟨b0, b1, b2, b3, b4, b5, b6, b7⟩ := u0.c8
      have hU := HU.out
      have BU := after_ hBw hBU
      obtain ⟨c0, c1, c2, c3⟩ := ((y0.below hBr).below hBU).c4
      obtain ⟨d0, d1⟩ := ((y2.below hBr).below hBU).c2
      go_wp2_with fail
      clear hU
      refine (field_ok W H GA PA gc pc G P s A' c' cx cy U (ht.kept BU) ((hg.below BU).more BU.size) ((hp.below BU).more BU.size) ((hSk.below hBU).more hBU.size) hok2).mono ?_
      rintro e w2 ⟨rfl, hb2⟩
      have B2 := after_ BU hb2
      have B3 := after_ (after_ hBr hBU) hb2
      clear c0 c1 c2 c3 b0 b1 b2 b3 b4 b5 b6 b7 d0 d1 a0 a1 a2 a3 a4 a5 a6 a7
      generalize M.field W G s cx cy = fb at *
      by_cases g : fa - fb < r
      · have q : decide (fa - fb < r) = true := decide_eq_true g
        have HF := Lib.hid (HYk.out g)
        go_wp2_with fail
        go_ret2
        exact ⟨ret_bi HF.out, B2⟩
      · have q : decide (fa - fb < r) = false := decide_eq_false g
        have HK3 := Lib.hid (HK2.out (by omega))
        go_wp2_with fail
        go_roundw
        case rel => exact ⟨k + 1, hlt, by go_num, B2, B3, HK3⟩
        case measure => simp [intOf]; omega
    · have HF := Lib.hid (HN.out (fun j hj => HK.out j hj (by omega)))
      go_wp2_with fail
      go_ret2
      exact ⟨ret_bi HF.out, hBw⟩
end Go.Proofs.YtciolgmljpamlaaGreatDoor
end

section
namespace Go.Proofs.YtciolgmljpamlaaGreatDoor
open Go Go.RowKit
set_option maxRecDepth 100000
set_option maxHeartbeats 8000000 in
theorem tAt_ok (W H : Int) (GA PA : Option Addr) (gc pc : Nat) (G P : List Int) (i : Nat) (w : World) (hg : Sl 1 icell w w.heap.size GA G) (hp : Sl 1 icell w w.heap.size PA P) (htv : M.tvalid W H G P = true) (hi : (i : Int) < W * H) :
    Calls Tryz.prog 169 #[tv W H GA PA G.length gc P.length pc, .int .i64 i] w fun e w' => e = .returned (.tuple #[cv (M.cx W i) (M.cy W i), .int .i64 0]) ∧ Below w.heap.size w w' := by
  obtain ⟨V, HW, x0, x1, hB, hs⟩ := boxes2 w #[.int .i64 W, .int .i64 H, .slice GA G.length gc, .slice PA P.length pc] 24 #[.int .i64 0, .int .i64 0] 113
  obtain ⟨r1, r2, r3, r4, -⟩ := M.tvalid_iff.1 htv
  obtain ⟨wh1, wh2⟩ := M.wh_le r1 r2
  obtain ⟨n, hn⟩ : ∃ n : Nat, W * H = n := ⟨(W * H).toNat, by omega⟩
  have hmul : W * H = (n : Int) := hn
  have HTV := Lib.hid htv
  have hIN : M.isIn (i : Int) 0 (n - 1) = true := M.isIn_iff.2 ⟨by omega, by omega⟩
  clear htv
  obtain ⟨c0, c1, c2, c3⟩ := x0.c4
  have hV := HW.out
  go_enter Tryz.func169, Tryz.ntmps169
  go_wp2_with fail
  clear hV c0 c1 c2 c3
  refine (tvalid_any W H GA PA gc pc G P V ((hg.below hB).more hB.size) ((hp.below hB).more hB.size) (by omega) (by omega)).mono ?_
  rintro e w1 ⟨rfl, hb1⟩
  rw [HTV.out]
  have B1 := after_ hB hb1
  obtain ⟨c0, c1, c2, c3⟩ := (x0.below hb1).c4
  go_wp2_with fail
  refine (within_any (i : Int) 0 (n - 1) w1).mono ?_
  rintro e w2 ⟨rfl, rfl⟩
  rw [hIN]
  go_wp2_with fail
  refine (cellAt_ok W H GA PA G.length gc P.length pc i w1 r1 (by omega)).mono ?_
  rintro e w3 ⟨rfl, hb3⟩
  have B3 := after_ B1 hb3
  have z := (x1.below hb1).below hb3
  obtain ⟨d0, d1⟩ := z.c2
  have f0 := z.frozen 0
  have f1 := z.frozen 1
  obtain ⟨z0, z1⟩ := ((z.set 0 (.int .i64 (M.cx W i))).set 1 (.int .i64 (M.cy W i))).c2
  go_wp2_with fail
  refine bodyPost_ret (v := .tuple #[cv (M.cx W i) (M.cy W i), .int .i64 0]) ?_ rfl ⟨rfl, ?_⟩
  · simp [results, Tryz.results169, go_sem, z0, z1]
  · exact (B3.setCell (p := ⟨w.heap.size + 1, 0, none⟩) (by dsimp only; omega) _).setCell (p := ⟨w.heap.size + 1, 1, none⟩) (by dsimp only; omega) _
def M.lost (W H : Int) (G : List Int) (a : St) (r : Int) (l : List St) : List Int := ((List.range (W * H).toNat).filter fun (i : Nat) => M.cov W G a (M.cx W i) (M.cy W i) && M.dist W G a r (M.cx W i) (M.cy W i) l).map fun (i : Nat) => (i : Int)
theorem M.lost_area (W H : Int) (G : List Int) (a : St) (r : Int) (l : List St) : (M.area W H G a).filter (fun x => M.dist W G a r (M.cx W x.toNat) (M.cy W x.toNat) l) = M.lost W H G a r l := by
  unfold M.area M.areaTo M.lost
  rw [List.filter_map, List.filter_filter]
  congr 1
  apply List.filter_congr
  intro i _
  simp [Function.comp, Bool.and_comm]
theorem M.lost_in {W H : Int} {G : List Int} {a : St} {r : Int} {l : List St} : ∀ x ∈ M.lost W H G a r l, 0 ≤ x ∧ x < W * H := by
  intro x hx
  unfold M.lost at hx
  obtain ⟨i, hi, rfl⟩ := List.mem_map.1 hx
  have := List.mem_range.1 (List.mem_filter.1 hi).1
  omega
theorem M.lost_len {W H : Int} {G : List Int} {a : St} {r : Int} {l : List St} : (M.lost W H G a r l).length ≤ (W * H).toNat := by
  unfold M.lost
  rw [List.length_map]
  have := List.length_filter_le (fun (i : Nat) => M.cov W G a (M.cx W i) (M.cy W i) && M.dist W G a r (M.cx W i) (M.cy W i) l) (List.range (W * H).toNat)
  simpa using this
def M.lostOk (W H : Int) (G P : List Int) (a : St) (o : Int) (l : List St) : Bool := M.okOff o && l.all (M.okS W H G P) && M.okS W H G P a
def M.lostR (W H : Int) (G P : List Int) (a : St) (o : Int) (l : List St) : List Int × Int := if M.lostOk W H G P a o l = true then (M.lost W H G a (M.ratio o) l, 0) else ([], 2)
theorem RetL.none_ {w w' : World} {l : List Int} {e : Int} (h : (l, e) = ([], 2)) (hB : Below w.heap.size w w') : RetL 1 icell w l e (.returned (.tuple #[.slice Option.none 0 0, .int .i64 2])) w' := by
  obtain ⟨rfl, rfl⟩ := Prod.mk.inj h
  exact ⟨Option.none, 0, rfl, Sl.nil_, hB⟩
set_option maxHeartbeats 16000000 in
theorem lost_any (W H : Int) (GA PA : Option Addr) (gc pc : Nat) (G P : List Int) (a : St) (A : Option Addr) (c : Nat) (o : Int) (LA : Option Addr) (lc : Nat) (es : List SE) (w : World) (ht : Tab w) (hg : Sl 1 icell w w.heap.size GA G) (hp : Sl 1 icell w w.heap.size PA P) (hS : Sl 1 icell w w.heap.size A a.pat) (hL : Sl 8 secell w w.heap.size LA es) (hP : Pats w es)
    (hl : es.length ≤ 1000) (hgl : G.length ≤ 9223372036854775807) (hpl' : P.length ≤ 9223372036854775807) (hpa : a.pat.length ≤ 1000) (hpl : ∀ e ∈ es, e.s.pat.length ≤ 1000) :
    Calls Tryz.prog 129 #[tv W H GA PA G.length gc P.length pc, stv a A c, .int .i64 o, .slice LA es.length lc] w (RetL 1 icell w (M.lostR W H G P a o (es.map (·.s))).1 (M.lostR W H G P a o (es.map (·.s))).2) := by
  obtain ⟨V, HW, x0, x1, hB, -⟩ := boxes2 w #[.int .i64 W, .int .i64 H, .slice GA G.length gc, .slice PA P.length pc] 24 (stc a A c) 40
  obtain ⟨i0, hi, hz0, hz1, hz2⟩ := info_parts intInfo
  have Hi := Lib.hid hi; have Hz0 := Lib.hid hz0; have Hz1 := Lib.hid hz1; have Hz2 := Lib.hid hz2
  clear hi hz0 hz1 hz2
  obtain ⟨rl, er, hr⟩ : ∃ rl er, M.lostR W H G P a o (es.map (·.s)) = (rl, er) := ⟨_, _, rfl⟩
  have HNO : Hid (M.lostOk W H G P a o (es.map (·.s)) = false → (rl, er) = ([], 2)) := Lib.hid (fun h => by rw [← hr]; unfold M.lostR; rw [h]; rfl)
  have HYES : Hid (M.lostOk W H G P a o (es.map (·.s)) = true → (rl, er) = (M.lost W H G a (M.ratio o) (es.map (·.s)), 0)) := Lib.hid (fun h => by rw [← hr]; unfold M.lostR; rw [h]; rfl)
  rw [hr]
  clear hr
  have HLO : Hid (M.lostOk W H G P a o (es.map (·.s)) = (M.okOff o && (es.map (·.s)).all (M.okS W H G P) && M.okS W H G P a)) := Lib.hid rfl
  cases hoff : M.okOff o with
  | false =>
    have HF := Lib.hid (HNO.out (by rw [HLO.out, hoff]; rfl))
    go_enter Tryz.func129, Tryz.ntmps129
    go_wp2_with fail
    rw [HW.out]
    refine (ratio_no o V hoff).mono ?_
    rintro e w1 ⟨rfl, rfl⟩
    go_wp2_with fail
    go_ret2
    exact RetL.none_ HF.out hB
  | true =>
    have HOFF := Lib.hid hoff
    go_enter Tryz.func129, Tryz.ntmps129
    go_wp2_with fail
    rw [HW.out]
    refine (ratio_ok o V hoff).mono ?_
    rintro e w1 ⟨rfl, rfl⟩
    clear hoff
    obtain ⟨ro, HRO⟩ : ∃ ro, Hid (M.ratio o = ro) := ⟨_, Lib.hid rfl⟩
    rw [HRO.out]
    rw [HRO.out] at HYES
    go_wp2_with fail
    go_loopw [13, 14, 32] (fun _ _ i wr => ∃ k : Nat, k ≤ es.length ∧ i = .int .i64 k ∧ Below w.heap.size w wr ∧ Below V.heap.size V wr ∧ Hid (∀ j (hj : j < es.length), j < k → M.okS W H G P es[j].s = true)) (fun _ _ i _ => es.length - (intOf i).toNat)
    case atStart => exact ⟨0, Nat.zero_le _, rfl, hB, Below.refl _ _, Lib.hid (fun j _ h => absurd h (by omega))⟩
    case round =>
      obtain ⟨k, hk, rfl, hBw, hBr, HN⟩ := hrel
      by_cases hlt : k < es.length
      · obtain ⟨la, rfl, hlb, a0, a1, a2, a3, a4, a5, a6, a7⟩ := (hL.below hBw).st8 hlt
        have hSk := (hP.below hBw).at_ hlt
        have hpk := hpl _ (List.getElem_mem hlt)
        have HK1 : Hid (M.okS W H G P es[k].s = false → (rl, er) = ([], 2)) := Lib.hid (fun h => HNO.out (by
          rw [HLO.out]
          have h2 : ((es.map (·.s)).all (M.okS W H G P)) = false := by
            rw [List.all_eq_false]
            exact ⟨es[k].s, List.mem_map.2 ⟨_, List.getElem_mem hlt, rfl⟩, by rw [h]; decide⟩
          rw [h2, Bool.and_false, Bool.false_and]))
        have HN2 : Hid (M.okS W H G P es[k].s = true → ∀ j (hj : j < es.length), j < k + 1 → M.okS W H G P es[j].s = true) := Lib.hid (fun h j h1 h3 => by
          by_cases e : j = k
          · subst e; exact h
          · exact HN.out j h1 (by omega))
        generalize es[k] = ek at *
        obtain ⟨s, A', c'⟩ := ek
        simp only at a0 a1 a2 a3 a4 a5 a6 a7 hSk hpk HK1 HN2
        obtain ⟨U, HU, u0, hBU, -⟩ := boxes1 wr (stc s A' c') 40
        obtain ⟨b0, b1, b2, b3, b4, b5, b6, b7⟩ := u0.c8
        have hU := HU.out
        have BU := after_ hBw hBU
        obtain ⟨c0, c1, c2, c3⟩ := ((x0.below hBr).below hBU).c4
        go_wp2_with fail
        clear hU
        refine (icheck_any W H GA PA gc pc G P s A' c' U ((hg.below BU).more BU.size) ((hp.below BU).more BU.size) ((hSk.below hBU).more hBU.size) hgl hpl' (by omega)).mono ?_
        rintro e w2 ⟨rfl, hb2⟩
        have B2 := after_ BU hb2
        cases hv : M.okS W H G P s with
        | false =>
          have HF := Lib.hid (HK1.out hv)
          simp only [Bool.false_eq_true, if_false]
          go_wp2_with fail
          go_ret2
          exact RetL.none_ HF.out B2
        | true =>
          have HN3 := Lib.hid (HN2.out hv)
          simp only [if_true]
          go_wp2_with fail
          go_roundw
          case rel => exact ⟨k + 1, hlt, by go_num, B2, after_ (after_ hBr hBU) hb2, HN3⟩
          case measure => simp [intOf]; omega
      · have HALL : Hid (∀ j (hj : j < es.length), M.okS W H G P es[j].s = true) := Lib.hid (fun j hj => HN.out j hj (by omega))
        have HAL : Hid (((es.map (·.s)).all (M.okS W H G P)) = true) := Lib.hid (by
          rw [List.all_eq_true]
          intro s hs
          obtain ⟨e, he, rfl⟩ := List.mem_map.1 hs
          obtain ⟨j, hj, rfl⟩ := List.getElem_of_mem he
          exact HALL.out j hj)
        clear HN
        have y0 := x0.below hBr
        have y1 := x1.below hBr
        obtain ⟨c0, c1, c2, c3⟩ := y0.c4
        obtain ⟨b0, b1, b2, b3, b4, b5, b6, b7⟩ := y1.c8
        cases hoa : M.okS W H G P a with
        | false =>
          have HF := Lib.hid (HNO.out (by rw [HLO.out, hoa, Bool.and_false]))
          go_wp2_with fail
          refine (area_no W H GA PA gc pc G P a A c wr ((hg.below hBw).more hBw.size) ((hp.below hBw).more hBw.size) ((hS.below hBw).more hBw.size) hgl hpl' hpa hoa).mono ?_
          rintro e w2 ⟨rfl, hb2⟩
          go_wp2_with fail
          go_ret2
          exact RetL.none_ HF.out (after_ hBw hb2)
        | true =>
          have HF := HYES.out (by rw [HLO.out, HOFF.out, HAL.out, hoa]; rfl)
          obtain ⟨rfl, rfl⟩ := Prod.mk.inj HF
          have HOA := Lib.hid hoa
          obtain ⟨-, htv, -, -⟩ := M.okS_iff.1 hoa
          obtain ⟨r1, r2, -⟩ := M.tvalid_iff.1 htv
          obtain ⟨wh1, wh2⟩ := M.wh_le r1 r2
          have HTV := Lib.hid htv
          have hal : (M.area W H G a).length ≤ 4096 := Nat.le_trans M.area_len (by omega)
          have HIN := Lib.hid (M.area_in (W := W) (H := H) (G := G) (s := a))
          have HLA := Lib.hid (M.lost_area W H G a ro (es.map (·.s)))
          clear htv HF HYES HNO HLO
          go_wp2_with fail
          clear c0 c1 c2 c3 b0 b1 b2 b3 b4 b5 b6 b7
          refine (area_ok W H GA PA gc pc G P a A c wr (ht.kept hBw) ((hg.below hBw).more hBw.size) ((hp.below hBw).more hBw.size) ((hS.below hBw).more hBw.size) hoa).mono ?_
          rintro e w2 ⟨A2, c2, rfl, hS2, hb2⟩
          have B2 := after_ hBw hb2
          have z0 := y0.below hb2
          have z1 := y1.below hb2
          clear hoa
          generalize M.area W H G a = ar at *
          go_wp2_with fail
          go_loopw [16, 18, 19, 20, 21, 54] (fun out _ _ _ _ i wq => ∃ (k : Nat) (os : List Int), k ≤ ar.length ∧ i = .int .i64 k ∧ Below w.heap.size w wq ∧ Below w2.heap.size w2 wq ∧ os.length ≤ k ∧ wq.ownsRow w2.heap.size 3 1 out os.length (flat 1 icell os) ∧ Hid (os = (ar.take k).filter fun x => M.dist W G a ro (M.cx W x.toNat) (M.cy W x.toNat) (es.map (·.s)))) (fun _ _ _ _ _ i _ => ar.length - (intOf i).toNat)
          case atStart => exact ⟨0, [], Nat.zero_le _, rfl, B2, Below.refl _ _, by simp, own_nil _ _ _ _ _, Lib.hid rfl⟩
          case round =>
            obtain ⟨m, os, hm, rfl, hBq, hB2q, hol, hown, HO⟩ := hrel
            by_cases hme : m < ar.length
            · have hxi := HIN.out ar[m] (List.getElem_mem hme)
              obtain ⟨i, hxe⟩ : ∃ i : Nat, ar[m] = (i : Int) := ⟨ar[m].toNat, by omega⟩
              rw [hxe] at hxi
              have HT : Hid ((ar.take (m + 1)).filter (fun x => M.dist W G a ro (M.cx W x.toNat) (M.cy W x.toNat) (es.map (·.s))) = (ar.take m).filter (fun x => M.dist W G a ro (M.cx W x.toNat) (M.cy W x.toNat) (es.map (·.s))) ++ if M.dist W G a ro (M.cx W i) (M.cy W i) (es.map (·.s)) then [(i : Int)] else []) := Lib.hid (by
                rw [List.take_succ_eq_append_getElem hme, List.filter_append, hxe]
                congr 1
                by_cases h : M.dist W G a ro (M.cx W i) (M.cy W i) (es.map (·.s)) = true
                · simp [h]
                · simp [h])
              obtain ⟨aa, rfl, hab, a0⟩ := ((hS2.below hB2q).more hB2q.size).one_at hme
              simp only [icell] at a0
              rw [hxe] at a0
              clear hxe
              obtain ⟨hcx, hcy⟩ := M.cell_in (W := W) (H := H) (i := i) (by omega) hxi.2
              have hokA := M.okS_F HOA.out hcx.1 hcx.2 hcy.1 hcy.2
              have hokB : ∀ e ∈ es, M.okF W H G P e.s (M.cx W i) (M.cy W i) = true := fun e he => by
                obtain ⟨j, hj, rfl⟩ := List.getElem_of_mem he
                exact M.okS_F (HALL.out j hj) hcx.1 hcx.2 hcy.1 hcy.2
              have HKA := Lib.hid hokA
              have HKB := Lib.hid hokB
              clear hokA hokB
              obtain ⟨c0, c1, c2, c3⟩ := (z0.below hB2q).c4
              go_wp2_with fail
              clear c0 c1 c2 c3
              refine (tAt_ok W H GA PA gc pc G P i _ ((hg.below hBq).more hBq.size) ((hp.below hBq).more hBq.size) HTV.out hxi.2).mono ?_
              rintro e w5 ⟨rfl, hb5⟩
              have B5 := after_ hBq hb5
              have B25 := after_ hB2q hb5
              obtain ⟨X, HX, u0, hbX, -⟩ := boxes1 w5 #[.int .i64 (M.cx W i), .int .i64 (M.cy W i)] 113
              have BX := after_ B5 hbX
              have B2X := after_ B25 hbX
              obtain ⟨c0, c1, c2, c3⟩ := (z0.below B2X).c4
              obtain ⟨b0, b1, b2, b3, b4, b5, b6, b7⟩ := (z1.below B2X).c8
              obtain ⟨d0, d1⟩ := u0.c2
              have hX := HX.out
              go_wp2_with fail
              clear hX c0 c1 c2 c3 b0 b1 b2 b3 b4 b5 b6 b7 d0 d1 a0
              refine (disturbed_ok W H GA PA gc pc G P a A c ro (M.cx W i) (M.cy W i) LA lc es X (ht.kept BX) ((hg.below BX).more BX.size) ((hp.below BX).more BX.size) ((hS.below BX).more BX.size) ((hL.below BX).more BX.size) (hP.below BX) hl HKA.out HKB.out).mono ?_
              rintro e w6 ⟨rfl, hb6⟩
              have B6 := after_ BX hb6
              have B26 := after_ B2X hb6
              have hown6 := own_below (own_below (own_below hown hb5) hbX) hb6
              cases hd : M.dist W G a ro (M.cx W i) (M.cy W i) (es.map (·.s)) with
              | false =>
                have HT2 := Lib.hid (HT.out.trans (by rw [hd]; simp : _ = (ar.take m).filter (fun x => M.dist W G a ro (M.cx W x.toNat) (M.cy W x.toNat) (es.map (·.s)))))
                go_wp2_with fail
                go_roundw
                case rel => exact ⟨m + 1, os, hme, by go_num, B6, B26, by omega, hown6, Lib.hid (by rw [HT2.out]; exact HO.out)⟩
                case measure => simp [intOf]; omega
              | true =>
                have HT2 := Lib.hid (HT.out.trans (by rw [hd]; simp : _ = (ar.take m).filter (fun x => M.dist W G a ro (M.cx W x.toNat) (M.cy W x.toNat) (es.map (·.s))) ++ [(i : Int)]))
                go_wp2_with (at_builtin; refine wpList_push (w0 := w2) (cell := icell) (y := (i : Int)) rfl _ _ _ rfl w2.heap.size w2.heap.size 3 i0 _ 8 Tryz.underlying22 Hi.out Hz0.out Hz1.out Hz2.out rfl (by decide) _ _ _ rfl hown6 _ _ rfl _ rfl (fun _ => rfl) (by unfold maxLen; omega) (by omega) B26.size (Nat.le_refl _) B26 ?_; intro v' w' hown' hb' _)
                go_roundw
                case rel => exact ⟨m + 1, os ++ [(i : Int)], hme, by go_num, B2.trans (hb'.mono B2.size), hb', by simp; omega, by rw [List.length_append]; exact hown', Lib.hid (by rw [HT2.out, HO.out])⟩
                case measure => simp [intOf]; omega
            · have HO2 : Hid (os = M.lost W H G a ro (es.map (·.s))) := Lib.hid (by rw [HO.out, List.take_of_length_le (by omega)]; exact HLA.out)
              obtain ⟨A9, c9, rfl, hS9⟩ := own_slice (by decide) hown
              go_wp2_with fail
              go_ret2
              exact ⟨A9, c9, by rw [← HO2.out]; rfl, by rw [← HO2.out]; exact hS9, hBq⟩
end Go.Proofs.YtciolgmljpamlaaGreatDoor
end

section
namespace Go.Proofs.YtciolgmljpamlaaGreatDoor
open Go Go.RowKit
set_option maxRecDepth 100000
def M.peoR (W H : Int) (G P : List Int) (a : St) (o : Int) (l : List St) : Int × Int := if M.lostOk W H G P a o l = true then (M.total P (M.lost W H G a (M.ratio o) l), 0) else (0, 2)
theorem M.lostOk_tv {W H : Int} {G P : List Int} {a : St} {o : Int} {l : List St} (h : M.lostOk W H G P a o l = true) : M.tvalid W H G P = true ∧ M.okS W H G P a = true := by
  unfold M.lostOk at h
  rw [Bool.and_eq_true] at h
  exact ⟨(M.okS_iff.1 h.2).2.1, h.2⟩
theorem M.total_bd {P l : List Int} (hP : ∀ g ∈ P, 0 ≤ g ∧ g ≤ 1000000) (hl : l.length ≤ 4096) : 0 ≤ M.total P l ∧ M.total P l ≤ 4096000000 := by
  have := M.totTo_bd (l := l) hP l.length
  unfold M.total
  omega
theorem M.lost_len4 {W H : Int} {G P : List Int} {a : St} {r : Int} {l : List St} (htv : M.tvalid W H G P = true) : (M.lost W H G a r l).length ≤ 4096 := by
  obtain ⟨r1, r2, -⟩ := M.tvalid_iff.1 htv
  obtain ⟨wh1, wh2⟩ := M.wh_le r1 r2
  exact Nat.le_trans M.lost_len (by omega)
set_option maxHeartbeats 8000000 in
theorem ipeople_any (W H : Int) (GA PA : Option Addr) (gc pc : Nat) (G P : List Int) (a b : St) (A B : Option Addr) (c d : Nat) (o : Int) (w : World) (ht : Tab w) (hg : Sl 1 icell w w.heap.size GA G) (hp : Sl 1 icell w w.heap.size PA P) (hS : Sl 1 icell w w.heap.size A a.pat) (hT : Sl 1 icell w w.heap.size B b.pat)
    (hgl : G.length ≤ 9223372036854775807) (hpl' : P.length ≤ 9223372036854775807) (hpa : a.pat.length ≤ 1000) (hpb : b.pat.length ≤ 1000) :
    Calls Tryz.prog 100 #[tv W H GA PA G.length gc P.length pc, stv a A c, stv b B d, .int .i64 o] w fun e w' => e = .returned (.tuple #[.int .i64 (M.peoR W H G P a o [b]).1, .int .i64 (M.peoR W H G P a o [b]).2]) ∧ Below w.heap.size w w' := by
  obtain ⟨V, HW, x0, x1, x2, hB, -⟩ := boxes3 w #[.int .i64 W, .int .i64 H, .slice GA G.length gc, .slice PA P.length pc] 24 (stc a A c) 40 (stc b B d) 40
  obtain ⟨U, HU, u0, hBU, -⟩ := boxes1 V (stc b B d) 40
  have BU := after_ hB hBU
  have hL : Sl 8 secell U U.heap.size (some ⟨V.heap.size, 0, none⟩) [⟨b, B, d⟩] := Sl.of_box u0 rfl
  obtain ⟨c0, c1, c2, c3⟩ := x0.c4
  obtain ⟨b0, b1, b2, b3, b4, b5, b6, b7⟩ := x1.c8
  obtain ⟨d0, d1, d2, d3, d4, d5, d6, d7⟩ := x2.c8
  have hV := HW.out
  have hU := HU.out
  have k := lost_any W H GA PA gc pc G P a A c o (some ⟨V.heap.size, 0, none⟩) 1 [⟨b, B, d⟩] U (ht.kept BU) ((hg.below BU).more BU.size) ((hp.below BU).more BU.size) ((hS.below BU).more BU.size) hL (pats1 ((hT.below BU).more BU.size)) (by simp) hgl hpl' hpa (pl1 hpb)
  replace k : Calls Tryz.prog 129 #[tv W H GA PA G.length gc P.length pc, stv a A c, .int .i64 o, .slice (some ⟨V.heap.size, 0, none⟩) 1 1] U (RetL 1 icell U (M.lostR W H G P a o [b]).1 (M.lostR W H G P a o [b]).2) := k
  obtain ⟨r1, r2, hr⟩ : ∃ r1 r2, M.peoR W H G P a o [b] = (r1, r2) := ⟨_, _, rfl⟩
  have HR := Lib.hid hr
  rw [hr]
  clear hr
  unfold M.lostR at k
  cases hok : M.lostOk W H G P a o [b] with
  | false =>
    rw [hok, if_neg (by decide)] at k
    obtain ⟨rfl, rfl⟩ : r1 = 0 ∧ r2 = 2 := by
      have := HR.out
      unfold M.peoR at this
      rw [hok, if_neg (by decide)] at this
      simp only [Prod.mk.injEq] at this
      omega
    go_enter Tryz.func100, Tryz.ntmps100
    go_wp2_with fail
    clear hV hU
    refine k.mono ?_
    rintro e w1 ⟨A1, c1', rfl, hS1, hb1⟩
    go_wp2_with fail
    go_ret2
    exact ⟨rfl, after_ BU hb1⟩
  | true =>
    rw [hok, if_pos rfl] at k
    obtain ⟨h1, rfl⟩ : M.total P (M.lost W H G a (M.ratio o) [b]) = r1 ∧ r2 = 0 := by
      have := HR.out
      unfold M.peoR at this
      rw [hok, if_pos rfl] at this
      simp only [Prod.mk.injEq] at this
      exact ⟨this.1, this.2.symm⟩
    have HTV := Lib.hid (M.lostOk_tv hok).1
    have hll : (M.lost W H G a (M.ratio o) [b]).length ≤ 100000 := Nat.le_trans (M.lost_len4 HTV.out) (by omega)
    have HIN := Lib.hid (M.lost_in (W := W) (H := H) (G := G) (a := a) (r := M.ratio o) (l := [b]))
    have H1 := Lib.hid h1
    clear h1 HR hok
    generalize M.lost W H G a (M.ratio o) [b] = ls at *
    go_enter Tryz.func100, Tryz.ntmps100
    go_wp2_with fail
    clear hV hU c0 c1 c2 c3 b0 b1 b2 b3 b4 b5 b6 b7 d0 d1 d2 d3 d4 d5 d6 d7
    refine k.mono ?_
    rintro e w1 ⟨A1, c1', rfl, hS1, hb1⟩
    simp only
    have B1 := after_ BU hb1
    obtain ⟨c0, c1, c2, c3⟩ := ((x0.below hBU).below hb1).c4
    go_wp2_with fail
    refine (tTotal_ok W H GA PA gc pc G P A1 _ ls w1 ((hg.below B1).more B1.size) ((hp.below B1).more B1.size) hS1 HTV.out hll HIN.out).mono ?_
    rintro e w2 ⟨rfl, hb2⟩
    rw [H1.out]
    go_wp2_with fail
    go_ret2
    exact ⟨rfl, after_ B1 hb2⟩
def M.excR (W H : Int) (G P : List Int) (a b : St) (o s : Int) : Bool × Int := if (M.isIn s 0 1000 && M.lostOk W H G P a o [b]) = true then (decide (s * M.total P (M.area W H G a) < 1000 * M.total P (M.lost W H G a (M.ratio o) [b])), 0) else (false, 2)
set_option maxHeartbeats 8000000 in
theorem iexceeds_any (W H : Int) (GA PA : Option Addr) (gc pc : Nat) (G P : List Int) (a b : St) (A B : Option Addr) (c d : Nat) (o sh : Int) (w : World) (ht : Tab w) (hg : Sl 1 icell w w.heap.size GA G) (hp : Sl 1 icell w w.heap.size PA P) (hS : Sl 1 icell w w.heap.size A a.pat) (hT : Sl 1 icell w w.heap.size B b.pat)
    (hgl : G.length ≤ 9223372036854775807) (hpl' : P.length ≤ 9223372036854775807) (hpa : a.pat.length ≤ 1000) (hpb : b.pat.length ≤ 1000) :
    Calls Tryz.prog 63 #[tv W H GA PA G.length gc P.length pc, stv a A c, stv b B d, .int .i64 o, .int .i64 sh] w fun e w' => e = .returned (.tuple #[.bool (M.excR W H G P a b o sh).1, .int .i64 (M.excR W H G P a b o sh).2]) ∧ Below w.heap.size w w' := by
  obtain ⟨V, HW, x0, x1, x2, hB, -⟩ := boxes3 w #[.int .i64 W, .int .i64 H, .slice GA G.length gc, .slice PA P.length pc] 24 (stc a A c) 40 (stc b B d) 40
  obtain ⟨r1, r2, hr⟩ : ∃ r1 r2, M.excR W H G P a b o sh = (r1, r2) := ⟨_, _, rfl⟩
  have HNO : Hid ((M.isIn sh 0 1000 && M.lostOk W H G P a o [b]) = false → r1 = false ∧ r2 = 2) := Lib.hid (fun h => by
    have := hr
    unfold M.excR at this
    rw [h, if_neg (by decide)] at this
    simp only [Prod.mk.injEq] at this
    exact ⟨this.1.symm, this.2.symm⟩)
  have HYES : Hid ((M.isIn sh 0 1000 && M.lostOk W H G P a o [b]) = true → decide (sh * M.total P (M.area W H G a) < 1000 * M.total P (M.lost W H G a (M.ratio o) [b])) = r1 ∧ r2 = 0) := Lib.hid (fun h => by
    have := hr
    unfold M.excR at this
    rw [h, if_pos rfl] at this
    simp only [Prod.mk.injEq] at this
    exact ⟨this.1, this.2.symm⟩)
  rw [hr]
  clear hr
  by_cases g1 : sh < 0
  · have q1 : decide (sh < 0) = true := decide_eq_true g1
    obtain ⟨rfl, rfl⟩ := HNO.out (by rw [show M.isIn sh 0 1000 = false by rw [Bool.eq_false_iff]; intro h; have := M.isIn_iff.1 h; omega]; rfl)
    go_enter Tryz.func63, Tryz.ntmps63
    go_wp2_with fail
    go_ret2
    exact ⟨rfl, by rw [HW.out]; exact hB⟩
  have q1 : decide (sh < 0) = false := decide_eq_false g1
  by_cases g2 : 1000 < sh
  · have q2 : decide (1000 < sh) = true := decide_eq_true g2
    obtain ⟨rfl, rfl⟩ := HNO.out (by rw [show M.isIn sh 0 1000 = false by rw [Bool.eq_false_iff]; intro h; have := M.isIn_iff.1 h; omega]; rfl)
    go_enter Tryz.func63, Tryz.ntmps63
    go_wp2_with fail
    go_ret2
    exact ⟨rfl, by rw [HW.out]; exact hB⟩
  have q2 : decide (1000 < sh) = false := decide_eq_false g2
  have HIS : Hid (M.isIn sh 0 1000 = true) := Lib.hid (M.isIn_iff.2 ⟨by omega, by omega⟩)
  have k := ipeople_any W H GA PA gc pc G P a b A B c d o V (ht.kept hB) ((hg.below hB).more hB.size) ((hp.below hB).more hB.size) ((hS.below hB).more hB.size) ((hT.below hB).more hB.size) hgl hpl' hpa hpb
  obtain ⟨c0, c1, c2, c3⟩ := x0.c4
  obtain ⟨b0, b1, b2, b3, b4, b5, b6, b7⟩ := x1.c8
  obtain ⟨d0, d1, d2, d3, d4, d5, d6, d7⟩ := x2.c8
  unfold M.peoR at k
  have hV := HW.out
  cases hok : M.lostOk W H G P a o [b] with
  | false =>
    rw [hok, if_neg (by decide)] at k
    obtain ⟨rfl, rfl⟩ := HNO.out (by rw [hok, Bool.and_false])
    go_enter Tryz.func63, Tryz.ntmps63
    go_wp2_with fail
    clear hV
    refine k.mono ?_
    rintro e w1 ⟨rfl, hb1⟩
    go_wp2_with fail
    go_ret2
    exact ⟨rfl, after_ hB hb1⟩
  | true =>
    rw [hok, if_pos rfl] at k
    obtain ⟨h1, rfl⟩ := HYES.out (by rw [hok, HIS.out]; rfl)
    have H1 := Lib.hid h1
    obtain ⟨htv, hoa⟩ := M.lostOk_tv hok
    obtain ⟨-, -, -, -, -, hPv⟩ := M.tvalid_iff.1 htv
    have t1 := M.total_bd (P := P) (l := M.lost W H G a (M.ratio o) [b]) hPv (M.lost_len4 htv)
    have t2 := M.total_bd (P := P) (l := M.area W H G a) hPv (by
      obtain ⟨r1, r2, -⟩ := M.tvalid_iff.1 htv
      obtain ⟨wh1, wh2⟩ := M.wh_le r1 r2
      exact Nat.le_trans M.area_len (by omega))
    have t3 : 0 ≤ sh * M.total P (M.area W H G a) ∧ sh * M.total P (M.area W H G a) ≤ 4096000000000 := by
      have m1 := Int.mul_nonneg (show (0 : Int) ≤ sh by omega) t2.1
      have m2 := Int.mul_le_mul (show sh ≤ 1000 by omega) t2.2 t2.1 (by omega)
      exact ⟨m1, m2⟩
    clear h1 hPv htv HNO HYES hok
    have kP : Hid (∀ w1, Tab w1 → Sl 1 icell w1 w1.heap.size GA G → Sl 1 icell w1 w1.heap.size PA P → Sl 1 icell w1 w1.heap.size A a.pat → Calls Tryz.prog 13 #[tv W H GA PA G.length gc P.length pc, stv a A c] w1 fun e w' => e = .returned (.tuple #[.int .i64 (M.total P (M.area W H G a)), .int .i64 0]) ∧ Below w1.heap.size w1 w') := Lib.hid (fun w1 h1 h2 h3 h4 => people_ok W H GA PA gc pc G P a A c w1 h1 h2 h3 h4 hoa)
    clear hoa
    generalize M.total P (M.lost W H G a (M.ratio o) [b]) = tl at *
    generalize M.total P (M.area W H G a) = ta at *
    go_enter Tryz.func63, Tryz.ntmps63
    go_wp2_with fail
    clear hV c0 c1 c2 c3 b0 b1 b2 b3 b4 b5 b6 b7 d0 d1 d2 d3 d4 d5 d6 d7
    refine k.mono ?_
    rintro e w1 ⟨rfl, hb1⟩
    simp only
    have B1 := after_ hB hb1
    obtain ⟨c0, c1, c2, c3⟩ := (x0.below hb1).c4
    obtain ⟨b0, b1, b2, b3, b4, b5, b6, b7⟩ := (x1.below hb1).c8
    go_wp2_with fail
    refine (kP.out w1 (ht.kept B1) ((hg.below B1).more B1.size) ((hp.below B1).more B1.size) ((hS.below B1).more B1.size)).mono ?_
    rintro e w2 ⟨rfl, hb2⟩
    clear c0 c1 c2 c3 b0 b1 b2 b3 b4 b5 b6 b7 q1 q2
    go_wp2_with fail
    go_ret2
    exact ⟨ret_bi H1.out, after_ B1 hb2⟩
end Go.Proofs.YtciolgmljpamlaaGreatDoor
end
