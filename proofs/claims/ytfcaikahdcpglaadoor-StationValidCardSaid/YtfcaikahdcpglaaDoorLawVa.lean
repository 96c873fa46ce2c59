/- The walk of the law StationValid. -/
import Derived.Test.YtfcaikahdcpglaaDoorLawF
namespace Go.Proofs.YtfcaikahdcpglaaDoor
open Go Go.RowKit
set_option maxRecDepth 100000

theorem own_ptr {α : Type} {size : Nat} {cell : α → Nat → Value} {w : World} {base : Nat} {e : TypeId} {A : Option Addr} {c n : Nat} {xs : List α} (h : w.ownsRow base e size (.slice A n c) n (flat size cell xs)) (hn : 0 < n) : ∃ g, A = some ⟨g, 0, none⟩ := by
  rcases h.2 with h2 | ⟨g, cap, cur, h1, _⟩
  · have := Value.slice.inj h2.1
    omega
  · exact ⟨g, (Value.slice.inj h1).1⟩

set_option maxHeartbeats 16000000 in
theorem stationValid_walk (s t : St) (A D : Option Addr) (c d : Nat) (ch : Int) (w : World) (ht : Tab w) (hS : Sl 1 icell w w.heap.size A s.pat) (hT : Sl 1 icell w w.heap.size D t.pat) :
    Calls Tryd.prog 7 #[stv s A c, stv t D d, .int .i64 ch] w (LawTrue w) := by
  obtain ⟨V, HW, x0, x1, hB, hsV⟩ := boxes2 w (stc s A c) 28 (stc t D d) 28
  have HSV := Lib.hid hsV
  clear hsV
  obtain ⟨U, HU, u0, hBU, -⟩ := boxes1 V #[.int .i64 s.id, .int .i64 s.x, .int .i64 s.y, .int .i64 s.pw, .int .i64 s.h, .slice A s.pat.length c, .int .i64 s.band, .int .i64 s.ch, .int .i64 t.id, .int .i64 t.x, .int .i64 t.y, .int .i64 t.pw, .int .i64 t.h, .slice D t.pat.length d, .int .i64 t.band, .int .i64 t.ch] 28
  have BU := after_ hB hBU
  have hL : Sl 8 secell U U.heap.size (some ⟨V.heap.size, 0, none⟩) [⟨s, A, c⟩, ⟨t, D, d⟩] := Sl.of_box u0 rfl
  have y0 := x0.below hBU
  have y1 := x1.below hBU
  have hV := HW.out
  have hU := HU.out
  obtain ⟨a0, a1, a2, a3, a4, a5, a6, a7⟩ := x0.c8
  obtain ⟨b0, b1, b2, b3, b4, b5, b6, b7⟩ := x1.c8
  go_enter Tryd.func7, Tryd.ntmps7
  go_wp2_with fail
  clear hV hU a0 a1 a2 a3 a4 a5 a6 a7 b0 b1 b2 b3 b4 b5 b6 b7
  refine (big_any 0 0 none none 0 0 0 0 (some ⟨V.heap.size, 0, none⟩) 2 [⟨s, A, c⟩, ⟨t, D, d⟩] U hL).mono ?_
  rintro e w1 ⟨rfl, hb1⟩
  have B1 := after_ BU hb1
  cases hbig : M.big13 0 0 (([⟨s, A, c⟩, ⟨t, D, d⟩] : List SE).map (·.s)) with
  | true =>
    go_wp2_with fail
    refine (known_any w1 (ht.kept B1)).mono ?_
    rintro e w2 ⟨rfl, hb2⟩
    go_wp2_with fail
    go_ret
    exact ⟨rfl, after_ B1 hb2⟩
  | false =>
    have hgl : s.pat.length ≤ 20 ∧ t.pat.length ≤ 20 := by
      unfold M.big13 at hbig
      simp at hbig
      omega
    clear hbig
    replace x0 := y0.below hb1
    replace x1 := y1.below hb1
    obtain ⟨a0, a1, a2, a3, a4, a5, a6, a7⟩ := x0.c8
    go_wp2_with fail
    clear a0 a1 a2 a3 a4 a5 a6 a7
    refine (rSCopy_ok s A c w1 ((hS.below B1).more B1.size) (by omega)).mono ?_
    rintro e w2 ⟨O, oc, rfl, hown, hb2⟩
    have B2 := after_ B1 hb2
    obtain ⟨X, HX, o0, hbX, -⟩ := boxes1 w2 (stc s O oc) 28
    have BX := after_ B2 hbX
    have oS := Sl.of_own (by decide) hown
    replace oS := (oS.below hbX).more hbX.size
    have oSX := oS
    replace x0 := (x0.below hb2).below hbX
    replace x1 := (x1.below hb2).below hbX
    obtain ⟨a0, a1, a2, a3, a4, a5, a6, a7⟩ := x0.c8
    have hX := HX.out
    go_wp2_with fail
    clear hX a0 a1 a2 a3 a4 a5 a6 a7 hown
    refine (sCopy_ok s A c X ((hS.below BX).more BX.size) (by omega)).mono ?_
    rintro e w3 ⟨C, cc, rfl, hown, hb3⟩
    have B3 := after_ BX hb3
    obtain ⟨Y, HY, q0, hbY, hsY⟩ := boxes1 w3 (stc s C cc) 28
    have HSY := Lib.hid hsY
    clear hsY
    have BY := after_ B3 hbY
    replace x0 := (x0.below hb3).below hbY
    replace x1 := (x1.below hb3).below hbY
    replace o0 := (o0.below hb3).below hbY
    replace oS := (((oS.below hb3).more hb3.size).below hbY).more hbY.size
    have hownY := own_below hown hbY
    have cS := Sl.of_own (by decide) hownY
    have sS := (hS.below BY).more BY.size
    have tS := (hT.below BY).more BY.size
    obtain ⟨v, HV⟩ : ∃ v, Hid (M.svalid s = v) := ⟨_, Lib.hid rfl⟩
    obtain ⟨q, HQ⟩ : ∃ q, Hid (decide (s = t) = q) := ⟨_, Lib.hid rfl⟩
    obtain ⟨bd, HBD⟩ : ∃ bd, Hid (M.band ch = bd) := ⟨_, Lib.hid rfl⟩
    have k1 : Hid (∀ w1, Sl 1 icell w1 w1.heap.size A s.pat → Calls Tryd.prog 25 #[stv s A c] w1 fun e w' => e = .returned (.bool v) ∧ Below w1.heap.size w1 w') := Lib.hid (fun w1 hh => by rw [← HV.out]; exact sValid_any s A c w1 hh (by omega))
    have k2 : Hid (∀ w1, Sl 1 icell w1 w1.heap.size A s.pat → Calls Tryd.prog 17 #[stv s A c] w1 fun e w' => e = .returned (.bool v) ∧ Below w1.heap.size w1 w') := Lib.hid (fun w1 hh => by rw [← HV.out]; exact rSValid_any s A c w1 hh (by omega))
    have k3 : Hid (∀ w1, Calls Tryd.prog 26 #[.int .i64 ch] w1 fun e w' => e = .returned (.int .i64 bd) ∧ w1 = w') := Lib.hid (fun w1 => by rw [← HBD.out]; exact band_any ch w1)
    have k4 : Hid (∀ w1, Calls Tryd.prog 27 #[.int .i64 ch] w1 fun e w' => e = .returned (.int .i64 bd) ∧ w1 = w') := Lib.hid (fun w1 => by rw [← HBD.out]; exact rBand_any ch w1)
    have k5 : Hid (∀ w1, Sl 1 icell w1 w1.heap.size A s.pat → Sl 1 icell w1 w1.heap.size D t.pat → Calls Tryd.prog 28 #[stv s A c, stv t D d] w1 fun e w' => e = .returned (.bool q) ∧ Below w1.heap.size w1 w') := Lib.hid (fun w1 h1 h2 => by rw [← HQ.out]; exact sEqual_any s t A D c d w1 h1 h2 (by omega))
    have k6 : Hid (∀ w1, Sl 1 icell w1 w1.heap.size A s.pat → Sl 1 icell w1 w1.heap.size D t.pat → Calls Tryd.prog 19 #[stv s A c, stv t D d] w1 fun e w' => e = .returned (.bool q) ∧ Below w1.heap.size w1 w') := Lib.hid (fun w1 h1 h2 => by rw [← HQ.out]; exact rSEqual_any s t A D c d w1 h1 h2 (by omega))
    have k7 : Hid (∀ w1, Sl 1 icell w1 w1.heap.size A s.pat → Calls Tryd.prog 28 #[stv s A c, stv s A c] w1 fun e w' => e = .returned (.bool true) ∧ Below w1.heap.size w1 w') := Lib.hid (fun w1 h1 => by
      have := sEqual_any s s A A c c w1 h1 h1 (by omega)
      rwa [decide_eq_true rfl] at this)
    have k8 : Hid (∀ w1, Sl 1 icell w1 w1.heap.size C s.pat → Sl 1 icell w1 w1.heap.size A s.pat → Calls Tryd.prog 19 #[stv s C cc, stv s A c] w1 fun e w' => e = .returned (.bool true) ∧ Below w1.heap.size w1 w') := Lib.hid (fun w1 h1 h2 => keq s C A cc c w1 h1 h2 (by omega))
    have p1 : (v != v) = false := by simp
    have p2 : (bd != bd) = false := by simp
    have p3 : (q != q) = false := by simp
    obtain ⟨a0, a1, a2, a3, a4, a5, a6, a7⟩ := x0.c8
    obtain ⟨b0, b1, b2, b3, b4, b5, b6, b7⟩ := x1.c8
    obtain ⟨f0, f1, f2, f3, f4, f5, f6, f7⟩ := q0.c8
    have l0 := x0.lt
    have l1 := x1.lt
    have l2 := q0.lt
    have hY := HY.out
    go_wp2_with fail
    clear hY
    refine wp_region_kept Y.heap.size Y (by kernel_rfl) (by kernel_rfl) (Below.refl _ _) ?_
    repeat (go_big_quiet_step ((first | (go_at_call 25; exact Kept.calls (Nat.le_refl _) (k1.out _ sS.kept)) | (go_at_call 17; exact Kept.calls (Nat.le_refl _) (k2.out _ sS.kept)) | (go_at_call 26; exact Kept.same (k3.out _)) | (go_at_call 27; exact Kept.same (k4.out _)) | (go_at_call 28; with_reducible exact Kept.calls (Nat.le_refl _) (k5.out _ sS.kept tS.kept)) | (go_at_call 28; with_reducible exact Kept.calls (Nat.le_refl _) (k7.out _ sS.kept)) | (go_at_call 19; with_reducible exact Kept.calls (Nat.le_refl _) (k6.out _ sS.kept tS.kept)) | (go_at_call 19; with_reducible exact Kept.calls (Nat.le_refl _) (k8.out _ cS.kept sS.kept)))))
    refine wpQuiet_nil ?_
    rintro w5 ⟨⟨_, hb5⟩, rfl⟩
    clear k1 k2 k3 k4 k5 k6 k7 k8 p1 p2 p3 a0 a1 a2 a3 a4 a5 a6 a7 b0 b1 b2 b3 b4 b5 b6 b7 f0 f1 f2 f3 f4 f5 f6 f7 l0 l1 l2 cS sS tS HV HQ HBD x1
    have B5 := after_ BY hb5
    replace x0 := x0.below hb5
    replace o0 := o0.below hb5
    replace q0 := q0.below hb5
    replace oS := (oS.below hb5).more hb5.size
    replace hownY := own_below hownY hb5
    have hXY : X.heap.size ≤ w5.heap.size := Nat.le_trans (Nat.le_trans hb3.size hbY.size) hb5.size
    have hX3 : X.heap.size ≤ w3.heap.size := hb3.size
    have hoX : w2.heap.size < X.heap.size := (x0.lt |> fun _ => by have := HX.out; rw [← this]; simp)
    have hwX : w.heap.size ≤ X.heap.size := BX.size
    have BwX : Hid (w.heap.size < X.heap.size) := Lib.hid (by have := B2.size; omega)
    have BX5 := after_ (after_ hb3 hbY) hb5
    have hgn : Hid (∀ g, C = some ⟨g, 0, none⟩ → w3.heap.size ≠ g) := Lib.hid (fun g e => by
      subst e
      have := (own_lt hown).2
      omega)
    go_wp2_with fail
    go_loopw [9] (fun i wr => ∃ (k : Nat) (ps : List Int), k ≤ s.pat.length ∧ ps.length = s.pat.length ∧ i = .int .i64 k ∧ Below w.heap.size w wr ∧ wr.heap.size = w5.heap.size ∧ Box wr w3.heap.size (stc s C cc) 28 ∧ Below X.heap.size w5 wr ∧ wr.ownsRow X.heap.size 3 1 (.slice C s.pat.length cc) s.pat.length (flat 1 icell ps)) (fun i _ => s.pat.length - (intOf i).toNat)
    case atStart => exact ⟨0, s.pat, Nat.zero_le _, rfl, rfl, B5, rfl, q0, Below.refl _ _, hownY⟩
    case round =>
      obtain ⟨k, ps, hk, hpl, rfl, hBw, hsz, hbox, hBX, hO⟩ := hrel
      obtain ⟨f0, f1, f2, f3, f4, f5, f6, f7⟩ := hbox.c8
      clear f0 f1 f2 f3 f4 f6 f7
      by_cases hlt : k < s.pat.length
      · obtain ⟨g, rfl⟩ := own_ptr hO (by omega)
        have hkp : k < ps.length := by omega
        obtain ⟨m1, m2⟩ := own_at hO hkp (j := 0) (by decide)
        obtain ⟨g1, g2⟩ := own_lt hO
        have HST : Hid (∀ z : Int, (wr.setCell ⟨g, k, none⟩ (.int .i64 z)).ownsRow X.heap.size 3 1 (.slice (some ⟨g, 0, none⟩) s.pat.length cc) s.pat.length (flat 1 icell (ps.set k z))) := Lib.hid (fun z => by
          have := own_set hO hkp (j := 0) (y := z) (u := .int .i64 z) (by decide) rfl (fun j' h1 h2 => absurd h1 (by omega))
          simpa only [Nat.mul_one, Nat.add_zero] using this)
        have hgne : w3.heap.size ≠ g := hgn.out g rfl
        have HBX : Hid (∀ z, Box (wr.setCell ⟨g, k, none⟩ z) w3.heap.size (stc s (some ⟨g, 0, none⟩) cc) 28) := Lib.hid (fun z => hbox.set_other (p := ⟨g, k, none⟩) hgne z)
        simp only [Nat.mul_one, Nat.add_zero, icell] at m1 m2
        generalize ps[k] = pk at *
        clear hO hbox
        go_wp2_with fail
        go_roundw
        case rel => exact ⟨k + 1, ps.set k _, hlt, by rw [List.length_set]; exact hpl, by go_num, hBw.setCell (p := ⟨g, k, none⟩) (by dsimp only; omega) _, by rw [World.size_setCell]; exact hsz, HBX.out _, hBX.setCell (p := ⟨g, k, none⟩) g1 _, HST.out _⟩
        case measure => simp [intOf]; omega
      · have hlt0 : w.heap.size < X.heap.size := by have := hwX; have := BwX.out; omega
        have x6 : Box wr w.heap.size (stc s A c) 28 := (hBX.block _ hlt0).trans x0
        have o6 : Box wr w2.heap.size (stc s O oc) 28 := (hBX.block _ hoX).trans o0
        have hBX2 := BX5.trans hBX
        have oS6 := (oSX.below hBX2).more hBX2.size
        have sS6 := (hS.below hBw).more hBw.size
        obtain ⟨a0, a1, a2, a3, a4, a5, a6, a7⟩ := x6.c8
        obtain ⟨b0, b1, b2, b3, b4, b5, b6, b7⟩ := o6.c8
        clear hO hbox x0 o0 x6 o6
        go_wp2_with fail
        refine (keq s A O c oc wr sS6 oS6 (by omega)).mono ?_
        rintro e w7 ⟨rfl, hb7⟩
        have B7 := after_ hBw hb7
        go_wp2_with fail
        refine (known_any w7 (ht.kept B7)).mono ?_
        rintro e w8 ⟨rfl, hb8⟩
        go_wp2_with fail
        go_ret
        exact ⟨rfl, after_ B7 hb8⟩
end Go.Proofs.YtfcaikahdcpglaaDoor
