/- Layer 10: the people of some cells. -/
import Derived.Test.YtohkbblfcjmmnaaGreatDoorTot
namespace Go.Proofs.YtohkbblfcjmmnaaGreatDoor
open Go Go.RowKit Go.Maps
set_option maxRecDepth 100000

theorem M.cell_ne {W : Int} {i j : Nat} (h : (cv (M.cx W i) (M.cy W i)) = cv (M.cx W j) (M.cy W j)) : i = j := by
  have h1 : M.cx W i = M.cx W j ∧ M.cy W i = M.cy W j := by
    unfold cv at h
    simpa using h
  unfold M.cx M.cy at h1
  have a := Int.emod_add_mul_ediv (i : Int) W
  have b := Int.emod_add_mul_ediv (j : Int) W
  rw [h1.1, h1.2] at a
  omega
/-- What the map of the counted cells holds. -/
def Cnt (W : Int) (n : Nat) (D : DataW Unit) (l : List Int) : Prop := ∀ (j : Nat) kl, j < n → keyOf Tryz.prog 60 (cv (M.cx W j) (M.cy W j)) = some kl → D.atKey kl (.lit (.bool false)) = .lit (.bool (decide ((j : Int) ∈ l)))
theorem Cnt.put {W : Int} {n : Nat} {D : DataW Unit} {l : List Int} (h : Cnt W n D l) (hm : IsMap D) {i : Nat} {kl : Lit} (hk : keyOf Tryz.prog 60 (cv (M.cx W i) (M.cy W i)) = some kl) : Cnt W n (D.put kl (.lit (.bool true))) (l ++ [(i : Int)]) := by
  intro j kj hj hkj
  by_cases e : j = i
  · subst e
    obtain rfl : kl = kj := Option.some.inj (hk.symm.trans hkj)
    rw [atKey_put_same hm (cellKeyed.key hk)]
    simp
  · have hne : kj ≠ kl := fun he => by
      subst he
      exact e (M.cell_ne (cellKeyed.inj hkj hk))
    rw [atKey_put_other hne, h j kj hj hkj]
    have : ((j : Int) ∈ l ++ [(i : Int)]) ↔ (j : Int) ∈ l := by
      simp
      intro e2
      omega
    simp only [this]
theorem Cnt.stay {W : Int} {n : Nat} {D : DataW Unit} {l : List Int} (h : Cnt W n D l) {x : Int} (hx : x ∈ l) : Cnt W n D (l ++ [x]) := by
  intro j kj hj hkj
  rw [h j kj hj hkj]
  have : ((j : Int) ∈ l ++ [x]) ↔ (j : Int) ∈ l := by
    simp
    intro e2
    rw [e2]; exact hx
  simp only [this]

theorem grownBy_cell_ne {w w' : World} {b c : Nat} (hg : w.grownBy w' (some b)) {p : Addr} (hp : p.block < w.heap.size) (h1 : p.block < c) (h2 : c < b) : w'.cell? p = w.cell? p :=
  World.cell?_of_block (hg.block p.block hp (fun e => by have := Option.some.inj e; omega))

set_option maxHeartbeats 16000000 in
theorem tTotal_ok (W H : Int) (GA PA : Option Addr) (gc pc : Nat) (G P : List Int) (A : Option Addr) (c : Nat) (l : List Int) (w : World) (hg : Sl 1 icell w w.heap.size GA G) (hp : Sl 1 icell w w.heap.size PA P) (hl : Sl 1 icell w w.heap.size A l) (htv : M.tvalid W H G P = true) (hlen : l.length ≤ 100000) (hin : ∀ x ∈ l, 0 ≤ x ∧ x < W * H) :
    Calls Tryz.prog 43 #[tv W H GA PA G.length gc P.length pc, .slice A l.length c] w fun e w' => e = .returned (.tuple #[.int .i64 (M.total P l), .int .i64 0]) ∧ Below w.heap.size w w' := by
  obtain ⟨V, HW, x0, hB, hs⟩ := boxes1 w #[.int .i64 W, .int .i64 H, .slice GA G.length gc, .slice PA P.length pc] 24
  obtain ⟨r1, r2, hr3, hr4, hr5, hr6⟩ := M.tvalid_iff.1 htv
  obtain ⟨wh1, wh2⟩ := M.wh_le r1 r2
  obtain ⟨n, hn⟩ : ∃ n : Nat, W * H = n := ⟨(W * H).toNat, by omega⟩
  have HTV := Lib.hid htv
  have HIN : Hid (∀ k (hk : k < l.length), ∃ i : Nat, l[k] = (i : Int) ∧ i < n) := Lib.hid (fun k hk => by
    have := hin l[k] (List.getElem_mem hk)
    exact ⟨l[k].toNat, by omega, by omega⟩)
  have HPL : Hid (P.length = n ∧ ∀ g ∈ P, 0 ≤ g ∧ g ≤ 1000000) := Lib.hid ⟨by omega, hr6⟩
  have hgl : G.length ≤ 5000 := by omega
  have hplen : P.length ≤ 5000 := by omega
  have hn4 : n ≤ 4096 := by omega
  have HS := Lib.hid hs
  clear hs htv hin hr3 hr4 hr5 hr6
  obtain ⟨c0, c1, c2, c3⟩ := x0.c4
  have hV := HW.out
  go_enter Tryz.func43, Tryz.ntmps43
  go_wp2_with fail
  clear hV c0 c1 c2 c3
  refine (tvalid_any W H GA PA gc pc G P V ((hg.below hB).more hB.size) ((hp.below hB).more hB.size) (by omega) (by omega)).mono ?_
  rintro e w1 ⟨rfl, hb1⟩
  rw [HTV.out]
  have B1 := after_ hB hb1
  have hmm := @run_makeMap Tryz.prog
  obtain ⟨U, HU⟩ : ∃ U, Hid (w1.alloc (.map #[] 0) = U) := ⟨_, Lib.hid rfl⟩
  have hU := HU.out
  have hbU : Below w1.heap.size w1 U := by rw [← hU]; exact (Below.refl _ _).alloc (Nat.le_refl _) _
  have BU := after_ B1 hbU
  have hown : U.ownsMap Tryz.prog 60 (plainElem (H := Unit) Tryz.prog 4) w1.heap.size 0 (.map []) := by rw [← hU]; exact World.ownsMap_made _ _ _ _
  have xU := (x0.below hb1).below hbU
  have hlt1 : w.heap.size < w1.heap.size := by have := HS.out; have := hb1.size; omega
  go_wp2_with fail
  clear hU hmm
  go_loopw [7, 9, 10, 17] (fun t _ _ i wr => ∃ (k : Nat) (m : Nat) (D : DataW Unit), k ≤ l.length ∧ m ≤ k ∧ i = .int .i64 k ∧ t = .int .i64 (M.totTo P l k) ∧ Below w.heap.size w wr ∧ Box wr w.heap.size #[.int .i64 W, .int .i64 H, .slice GA G.length gc, .slice PA P.length pc] 24 ∧ wr.ownsMap Tryz.prog 60 (plainElem (H := Unit) Tryz.prog 4) w1.heap.size m D ∧ Hid (IsMap D ∧ Cnt W n D (l.take k))) (fun _ _ _ i _ => l.length - (intOf i).toNat)
  case atStart => exact ⟨0, 0, .map [], Nat.zero_le _, Nat.le_refl _, rfl, rfl, BU, xU, hown, Lib.hid ⟨isMap_empty, fun j kl _ _ => by simp [DataW.atKey]⟩⟩
  case round =>
    clear hown xU
    obtain ⟨k, m, D, hk, hmk, rfl, rfl, hBr, xr, hown, HD⟩ := hrel
    by_cases hlt : k < l.length
    · obtain ⟨i, hie, hin⟩ := HIN.out k hlt
      obtain ⟨la, rfl, hlb, a0⟩ := ((hl.below hBr).more hBr.size).one_at hlt
      simp only [icell] at a0
      rw [hie] at a0
      obtain ⟨c0, c1, c2, c3⟩ := xr.c4
      have hIN : M.isIn (i : Int) 0 (n - 1) = true := M.isIn_iff.2 ⟨by omega, by omega⟩
      have hmul : W * H = (n : Int) := hn
      have HTS := Lib.hid (M.totTo_succ (P := P) hlt)
      rw [hie] at HTS
      have htb := M.totTo_bd (l := l) HPL.out.2 k
      have HTK : Hid (l.take (k + 1) = l.take k ++ [(i : Int)]) := Lib.hid (by rw [List.take_succ_eq_append_getElem hlt, hie])
      clear hie
      go_wp2_with fail
      refine (within_any (i : Int) 0 (n - 1) wr).mono ?_
      rintro e w3 ⟨rfl, rfl⟩
      rw [hIN]
      go_wp2_with fail
      refine (cellAt_ok W H GA PA G.length gc P.length pc i wr r1 (by omega)).mono ?_
      rintro e w4 ⟨rfl, hb4⟩
      have B4 := after_ hBr hb4
      obtain ⟨X, HX, u0, hbX, -⟩ := boxes1 w4 #[.int .i64 (M.cx W i), .int .i64 (M.cy W i)] 60
      have BX := after_ B4 hbX
      obtain ⟨hcx, hcy⟩ := M.cell_in (W := W) (H := H) (i := i) (by omega) (by omega)
      obtain ⟨kl, hkl⟩ := cell_key (M.cx W i) (M.cy W i) (by omega) (by omega)
      have hownX := (hown.kept (below_grown hb4) (by simp)).kept (below_grown hbX) (by simp)
      have xX := (xr.below hb4).below hbX
      have hat := HD.out.2 i kl hin hkl
      clear c0 c1 c2 c3 a0
      obtain ⟨c0, c1, c2, c3⟩ := xX.c4
      obtain ⟨d0, d1⟩ := u0.c2
      have hX := HX.out
      obtain ⟨pa, rfl, hpb, p0⟩ := ((hp.below BX).more BX.size).one_at (k := i) (by have := HPL.out.1; omega)
      have hpi : i < P.length := by have := HPL.out.1; omega
      have hPg : P.getD (i : Int).toNat 0 = P[i] := by simp [hpi]
      have hpv := HPL.out.2 P[i] (List.getElem_mem hpi)
      simp only [icell] at p0
      by_cases hmem : (i : Int) ∈ l.take k
      · rw [decide_eq_true hmem] at hat
        have HT2 : Hid (M.totTo P l (k + 1) = M.totTo P l k) := Lib.hid (by rw [HTS.out, if_pos hmem]; omega)
        have HC2 : Hid (IsMap D ∧ Cnt W n D (l.take (k + 1))) := Lib.hid ⟨HD.out.1, by rw [HTK.out]; exact HD.out.2.stay hmem⟩
        have HAT := Lib.hid hat
        clear hat hmem
        go_wp2_with (at_lookup; refine wpList_lookup_own_bool X rfl _ _ _ rfl 60 4 cellKeyed Tryz.underlying80 Tryz.underlying4 (zeroBool _) w1.heap.size m D rfl hownX _ kl rfl hkl true HAT.out ?_)
        go_roundw
        case rel => exact ⟨k + 1, m, D, hlt, by omega, by go_num, by rw [HT2.out], BX, xX, hownX, HC2⟩
        case measure => simp [intOf]; omega
      · rw [decide_eq_false hmem] at hat
        have HT2 : Hid (M.totTo P l (k + 1) = M.totTo P l k + P[i]) := Lib.hid (by rw [HTS.out, if_neg hmem, hPg])
        have HC2 : Hid (IsMap (D.put kl (.lit (.bool true))) ∧ Cnt W n (D.put kl (.lit (.bool true))) (l.take (k + 1))) := Lib.hid ⟨HD.out.1.put _ _, by rw [HTK.out]; exact HD.out.2.put HD.out.1 hkl⟩
        have HAT := Lib.hid hat
        clear hat hmem
        have hml : m < maxLen := by unfold maxLen; omega
        have hbm := hownX.lt
        have lX := xX.lt
        have hpb2 : (pa.add i).block < X.heap.size := by first | exact hpb | (rw [add_block]; exact hpb)
        have hpX : (pa.add i).block < w.heap.size := by
          rw [add_block]
          obtain ⟨pa', e', h', -⟩ := hp i hpi
          obtain rfl := Option.some.inj e'
          exact h'
        go_wp2_with (first | (at_lookup; refine wpList_lookup_own_bool X rfl _ _ _ rfl 60 4 cellKeyed Tryz.underlying80 Tryz.underlying4 (zeroBool _) w1.heap.size m D rfl hownX _ kl rfl hkl false HAT.out ?_) | (at_mapUpdate; refine wpList_mapUpdate_own X rfl _ _ _ _ rfl 60 4 cellKeyed Tryz.underlying80 _ w1.heap.size m D rfl hownX hml _ _ kl rfl rfl hkl _ [] (plainElem_bool Tryz.underlying4 true) ?_; intro w5 hown5 hg5; have B5 : Below w.heap.size w w5 := BX.grown hg5 BX.size (fun k e => by cases e; omega); have x5 : Box w5 w.heap.size #[.int .i64 W, .int .i64 H, .slice GA G.length gc, .slice (some pa) P.length pc] 24 := (hg5.block _ lX (fun e => by have := Option.some.inj e; omega)).trans xX; obtain ⟨v0, v1, v2, v3⟩ := x5.c4; have p5 : w5.cell? (pa.add i) = some (.int .i64 P[i]) := (grownBy_cell_ne hg5 hpb2 hpX hlt1).trans p0))
        go_roundw
        case rel => exact ⟨k + 1, m + 1, D.put kl (.lit (.bool true)), hlt, by omega, by go_num, by rw [HT2.out], B5, x5, hown5, HC2⟩
        case measure => simp [intOf]; omega
    · obtain rfl : k = l.length := by omega
      go_wp2_with fail
      go_ret2
      exact ⟨rfl, hBr⟩
end Go.Proofs.YtohkbblfcjmmnaaGreatDoor
