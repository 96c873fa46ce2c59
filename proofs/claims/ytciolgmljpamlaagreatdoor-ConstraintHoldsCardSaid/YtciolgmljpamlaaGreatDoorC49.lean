/- A bundle of texts: LwHo. -/
import Derived.Test.YtciolgmljpamlaaGreatDoorC41
import Derived.Test.YtciolgmljpamlaaGreatDoorC48
section
namespace Go.Proofs.YtciolgmljpamlaaGreatDoor
open Go Go.RowKit
set_option maxRecDepth 100000
theorem own_slH {α : Type} {size : Nat} {cell : α → Nat → Value} {w : World} {base : Nat} {e : TypeId} {A : Option Addr} {n c m : Nat} {xs : List α} (hs : 0 < size) (h : w.ownsRow base e size (.slice A n c) m (flat size cell xs)) : Sl size cell w w.heap.size A xs := by
  obtain ⟨A', c', e1, -, S⟩ := own_sliceC hs h
  cases e1
  exact S
theorem filter_yes {α : Type} {f : α → Bool} {l os : List α} {k : Nat} (hk : k < l.length) (h : os = (l.take k).filter f) (hf : f l[k] = true) : os ++ [l[k]] = (l.take (k + 1)).filter f := by
  rw [List.take_succ_eq_append_getElem hk, List.filter_append, ← h, List.filter_cons_of_pos hf, List.filter_nil]
theorem filter_no {α : Type} {f : α → Bool} {l os : List α} {k : Nat} (hk : k < l.length) (h : os = (l.take k).filter f) (hf : f l[k] = false) : os = (l.take (k + 1)).filter f := by
  rw [List.take_succ_eq_append_getElem hk, List.filter_append, ← h, List.filter_cons_of_neg (by rw [hf]; decide), List.filter_nil, List.append_nil]
theorem sub_yes {α : Type} {l os : List α} {k : Nat} (hk : k < l.length) (h : os.Sublist (l.take k)) : (os ++ [l[k]]).Sublist (l.take (k + 1)) := by
  rw [List.take_succ_eq_append_getElem hk]; exact h.append_right [l[k]]
theorem sub_no {α : Type} {l os : List α} {k : Nat} (hk : k < l.length) (h : os.Sublist (l.take k)) : os.Sublist (l.take (k + 1)) := by
  rw [List.take_succ_eq_append_getElem hk]; exact h.trans (List.sublist_append_left _ _)
set_option maxHeartbeats 64000000 in
theorem constraintHolds_walk (W H : Int) (GA PA : Option Addr) (gc pc : Nat) (G P : List Int) (LA : Option Addr) (lc : Nat) (es : List SE) (b lf : Int) (w : World) (ht : Tab w) (hg : Sl 1 icell w w.heap.size GA G) (hp : Sl 1 icell w w.heap.size PA P) (hL : Sl 8 secell w w.heap.size LA es) (hP : Pats w es) :
    Calls Tryz.prog 9 #[tv W H GA PA G.length gc P.length pc, .slice LA es.length lc, .int .i64 b, .int .i64 lf] w fun e w' => e = .returned (.bool true) ∧ Below w.heap.size w w' := by
  obtain ⟨V, HW, x0, hB, -⟩ := boxes1 w #[.int .i64 W, .int .i64 H, .slice GA G.length gc, .slice PA P.length pc] 24
  have lw : LW6 w V := ⟨ht.kept hB, hB⟩
  have bw : BW6 V w.heap.size W H GA PA gc pc G P LA es := ⟨x0, (hg.below hB).more hB.size, (hp.below hB).more hB.size, (hL.below hB).more hB.size, fun e he => ((hP e he).below hB).more hB.size⟩
  clear x0 hB hg hp hL hP
  by_cases h4 : es.length ≤ 4
  case neg =>
    have q0 : decide ((4 : Int) < (es.length : Int)) = true := decide_eq_true (by omega)
    have hV := HW.out
    go_enter Tryz.func9, Tryz.ntmps9
    go_wp2_with fail
    clear hV q0
    go_wp2_with fail
    refine lw.known.mono ?_
    rintro e x9 ⟨rfl, hb9⟩
    go_wp2_with fail
    go_ret
    exact ⟨rfl, hb9⟩
  have q0 : decide ((4 : Int) < (es.length : Int)) = false := decide_eq_false (by omega)
  have kS := rSmall_any W H GA PA gc pc G.length P.length 25 LA lc es V bw.l (by omega)
  obtain ⟨sm, hsm⟩ : ∃ sm, M.small W H G.length P.length 25 (es.map (·.s)) = sm := ⟨_, rfl⟩
  rw [hsm] at kS
  obtain ⟨c0, c1, c2, c3⟩ := bw.bt.c4
  have hV := HW.out
  go_enter Tryz.func9, Tryz.ntmps9
  go_wp2_with fail
  clear hV c0 c1 c2 c3 q0
  refine kS.mono ?_
  rintro e w1 ⟨rfl, hb1⟩
  replace lw := lw.next hb1
  replace bw := bw.next hb1
  clear kS hb1
  cases sm with
  | false =>
    clear hsm
    go_wp2_with fail
    refine lw.known.mono ?_
    rintro e x9 ⟨rfl, hb9⟩
    go_wp2_with fail
    go_ret
    exact ⟨rfl, hb9⟩
  | true =>
    obtain ⟨hgl, hpl, hps⟩ := M.small6_ps (n := 25) hsm
    have HPS : Hid (∀ e ∈ es, e.s.pat.length ≤ 1000) := Lib.hid (fun e he => Nat.le_trans (hps e.s (List.mem_map.2 ⟨e, he, rfl⟩)) (by decide))
    clear hsm hps
    have kA := rAllowed15_any W H GA PA gc pc G P LA lc es w1 bw.g bw.p bw.l bw.ps (by omega) (by omega) HPS.out
    obtain ⟨al, hal⟩ : ∃ al, M.allowed W H G P (es.map (·.s)) = al := ⟨_, rfl⟩
    rw [hal] at kA
    have HAL := Lib.hid hal
    clear hal
    obtain ⟨c0, c1, c2, c3⟩ := bw.bt.c4
    go_wp2_with fail
    clear c0 c1 c2 c3
    refine kA.mono ?_
    rintro e w3 ⟨rfl, hb3⟩
    replace lw := lw.next hb3
    replace bw := bw.next hb3
    clear kA hb3
    cases al with
    | false =>
      go_wp2_with fail
      refine lw.known.mono ?_
      rintro e x9 ⟨rfl, hb9⟩
      go_wp2_with fail
      go_ret
      exact ⟨rfl, hb9⟩
    | true =>
      have kR := rising16_any LA lc es w3 bw.l (by omega)
      go_wp2_with fail
      refine kR.mono ?_
      rintro e w4 ⟨⟨rs, rfl, hrs⟩, hb4⟩
      have HRS := Lib.hid hrs
      replace lw := lw.next hb4
      replace bw := bw.next hb4
      clear kR hb4 hrs
      cases rs with
      | false =>
        go_wp2_with fail
        refine lw.known.mono ?_
        rintro e x9 ⟨rfl, hb9⟩
        go_wp2_with fail
        go_ret
        exact ⟨rfl, hb9⟩
      | true =>
        by_cases g1 : b < 1
        case pos =>
          have p1 : decide (b < 1) = true := decide_eq_true g1
          go_wp2_with fail
          refine lw.known.mono ?_
          rintro e x9 ⟨rfl, hb9⟩
          go_wp2_with fail
          go_ret
          exact ⟨rfl, hb9⟩
        have p1 : decide (b < 1) = false := decide_eq_false g1
        by_cases g2 : 3 < b
        case pos =>
          have p2 : decide (3 < b) = true := decide_eq_true g2
          go_wp2_with fail
          refine lw.known.mono ?_
          rintro e x9 ⟨rfl, hb9⟩
          go_wp2_with fail
          go_ret
          exact ⟨rfl, hb9⟩
        have p2 : decide (3 < b) = false := decide_eq_false g2
        have hb13 : 1 ≤ b ∧ b ≤ 3 := ⟨by omega, by omega⟩
        have HRI := Lib.hid (HRS.out.1 rfl)
        have HOK : Hid (M.cbOk W H G P (es.map (·.s))) := Lib.hid ((M.cbOk_iff (by rw [List.length_map]; omega)).2 ⟨HAL.out, HRI.out⟩)
        clear HAL HRS
        obtain ⟨i8, hi8, hz08, hz18, hz28⟩ := info_parts seInfo
        have Hi8 := Lib.hid hi8; have Hz08 := Lib.hid hz08; have Hz18 := Lib.hid hz18; have Hz28 := Lib.hid hz28
        clear hi8 hz08 hz18 hz28
        go_wp2_with fail
        clear p1 p2 g1 g2
        go_loopw [3, 9, 10] (fun s3 s9 s10 wq => ∃ (k : Nat) (os : List SE) (z : Int), k ≤ es.length ∧ s10 = .int .i64 k ∧ s3 = .int .i64 z ∧ Below w4.heap.size w4 wq ∧ os.length ≤ k ∧ wq.ownsRow w4.heap.size 40 8 s9 os.length (flat 8 secell os) ∧ Hid (os.Sublist (es.take k))) (fun _ _ s10 _ => es.length - (intOf s10).toNat)
        case atStart => exact ⟨0, [], lf, Nat.zero_le _, rfl, rfl, Below.refl _ _, Nat.zero_le _, own_nil _ _ _ _ _, Lib.hid (List.nil_sublist _)⟩
        case round =>
          obtain ⟨k, os, z, hk, rfl, rfl, hBr, hol, hown, HO⟩ := hrel
          obtain ⟨A9, c9, rfl, hc9, S9⟩ := own_sliceC (by decide) hown
          by_cases hlt : k < es.length
          case pos =>
            have hle : os.length ≤ 4 := by omega
            have q0 : decide ((k : Int) < (es.length : Int)) = true := decide_eq_true (by omega)
            obtain ⟨la, hla, hlb, a0, a1, a2, a3, a4, a5, a6, a7⟩ := ((bw.next hBr).l).st8 hlt
            have x0 : (0 : Int) ≤ (k : Int) := by omega
            have x1 : (k : Int) < (es.length : Int) := by omega
            subst hla
            obtain ⟨q, hq⟩ : ∃ q, (z.tmod 2 != 0) = q := ⟨_, rfl⟩
            have HY := Lib.hid (sub_yes hlt HO.out)
            have HN := Lib.hid (sub_no hlt HO.out)
            clear HO hlb
            obtain ⟨x, hx⟩ : ∃ x, es[k] = x := ⟨_, rfl⟩
            rw [hx] at a0 a1 a2 a3 a4 a5 a6 a7 HY
            clear hx S9
            cases q with
            | true =>
              go_wp2_with (at_builtin; refine wpList_push (w0 := w4) (cell := secell) (y := x) rfl _ _ _ rfl w4.heap.size w4.heap.size 40 i8 _ 80 Tryz.underlying25 Hi8.out Hz08.out Hz18.out Hz28.out rfl (by decide) (.slice A9 os.length c9) os.length os rfl hown _ _ rfl _ rfl (se_one _) (by unfold maxLen; omega) (by omega) hBr.size (Nat.le_refl _) hBr ?_; intro v9 w9 hown9 hb9 hg9)
              go_roundw
              case rel => exact ⟨k + 1, os ++ [x], _, hlt, by go_num, rfl, hb9, by rw [List.length_append, List.length_singleton]; omega, by rw [List.length_append]; exact hown9, HY⟩
              case measure => simp [intOf]; omega
            | false =>
              go_wp2_with fail
              go_roundw
              case rel => exact ⟨k + 1, os, _, hlt, by go_num, rfl, hBr, by omega, hown, HN⟩
              case measure => simp [intOf]; omega
          case neg =>
            obtain rfl : k = es.length := by omega
            have q0 : decide ((es.length : Int) < (es.length : Int)) = false := decide_eq_false (by omega)
            have HSU : Hid (os.Sublist es) := Lib.hid (by have := HO.out; rwa [List.take_of_length_le (Nat.le_refl _)] at this)
            clear HO hown
            have HST : Hid ((os.map (·.s)).Sublist (es.map (·.s))) := Lib.hid (HSU.out.map _)
            have HOK2 := Lib.hid (M.cbOk_sub HOK.out HST.out)
            replace lw := lw.next hBr
            replace bw := bw.next hBr
            have bs : BW6 wr w.heap.size W H GA PA gc pc G P A9 os := ⟨bw.bt, bw.g, bw.p, S9, fun e he => bw.ps e (HSU.out.subset he)⟩
            clear S9 hBr
            have hos : os.length ≤ 4 := by omega
            have hln := M.built_len (W := W) (H := H) (G := G) (P := P) (b := b) (l := es.map (·.s)) (by rw [List.length_map]; exact h4)
            have hln2 := M.built_len (W := W) (H := H) (G := G) (P := P) (b := b) (l := os.map (·.s)) (by rw [List.length_map]; exact hos)
            have hval := M.built_valid (W := W) (H := H) (G := G) (P := P) (b := b) (l := es.map (·.s)) hb13 (by rw [List.length_map]; exact h4) HOK.out
            have HCAP : Hid (∀ c ∈ M.gC W H G P b (es.map (·.s)), ∀ p ∈ M.gL W H G P b (es.map (·.s)), p.a = c.a → 2 * p.c ≤ c.b) := Lib.hid (fun c hc p hp e => M.built_cap HRI.out hc hp e)
            have HQ1 := Lib.hid (M.built_subP (W := W) (H := H) (G := G) (P := P) (b := b) HRI.out HST.out)
            have HQ2 := Lib.hid (M.built_subL (W := W) (H := H) (G := G) (P := P) (b := b) HRI.out HST.out)
            have HQ3 := Lib.hid (M.built_subC (W := W) (H := H) (G := G) (P := P) (b := b) HRI.out HST.out)
            have kB := cbuild_ok W H GA PA gc pc G P LA lc es b wr lw.tab bw.g bw.p bw.l bw.ps h4 hb13 HOK.out
            have kD : Hid (∀ wx, Below wr.heap.size wr wx → Calls Tryz.prog 24 #[tv W H GA PA G.length gc P.length pc, .slice A9 os.length c9, .int .i64 b] wx (RetR wx (M.gP W H G P b (os.map (·.s)), M.gL W H G P b (os.map (·.s)), M.gC W H G P b (os.map (·.s))) 0)) := Lib.hid (fun wx hbx => by
              have bx := bs.next hbx
              exact cbuild_ok W H GA PA gc pc G P A9 c9 os b wx (lw.next hbx).tab bx.g bx.p bx.l bx.ps hos hb13 HOK2.out)
            clear HOK HOK2 HSU HST HRI HPS
            generalize M.gP W H G P b (es.map (·.s)) = ps at *
            generalize M.gL W H G P b (es.map (·.s)) = ls at *
            generalize M.gC W H G P b (es.map (·.s)) = cs at *
            generalize M.gP W H G P b (os.map (·.s)) = q1 at *
            generalize M.gL W H G P b (os.map (·.s)) = q2 at *
            generalize M.gC W H G P b (os.map (·.s)) = q3 at *
            obtain ⟨n1, n2, n3⟩ := hln
            obtain ⟨n4, n5, n6⟩ := hln2
            have HBD : Hid (∀ p ∈ ls, 0 ≤ p.c ∧ p.c ≤ 2000000000) := Lib.hid (fun p hp => by
              have := (M.of_vl M.cmp5_ord (M.rvalid_and.1 hval).2.1).2.1 p hp
              unfold M.vLoad M.isIn16 at this
              simp only [Bool.and_eq_true, decide_eq_true_eq] at this
              omega)
            have HVAL := Lib.hid hval
            clear hval
            obtain ⟨c0, c1, c2, c3⟩ := bw.bt.c4
            go_wp2_with fail
            clear c0 c1 c2 c3 q0
            refine kB.mono ?_
            rintro e w5 ⟨XA, xc, YA, yc, ZA, zc, rfl, rw1, cp1, hbx, -⟩
            have hbD := hbx
            replace lw := lw.next hbx
            replace bw := bw.next hbx
            replace bs := bs.next hbx
            clear kB hbx
            obtain ⟨U, HU, bx1, hbx, -⟩ := boxes1 w5 #[.slice XA ps.length xc, .slice YA ls.length yc, .slice ZA cs.length zc] 30
            replace hbD := after_ hbD hbx
            replace lw := lw.next hbx
            replace bw := bw.next hbx
            replace bs := bs.next hbx
            have rr : R6 U w5.heap.size XA YA ZA xc yc zc ps ls cs := ⟨bx1, rw1.next hbx, cp1⟩
            clear hbx bx1 rw1 cp1
            have kD2 := kD.out U hbD
            clear kD hbD
            obtain ⟨c0, c1, c2, c3⟩ := bs.bt.c4
            have hp := HU.out
            go_wp2_with fail
            clear hp c0 c1 c2 c3
            refine kD2.mono ?_
            rintro e w6 ⟨XB, xd, YB, yd, ZB, zd, rfl, rw1, cp1, hbx, -⟩
            replace lw := lw.next hbx
            replace bw := bw.next hbx
            replace bs := bs.next hbx
            replace rr := rr.next hbx
            clear kD2 hbx
            obtain ⟨U2, HU2, bx1, hbx, -⟩ := boxes1 w6 #[.slice XB q1.length xd, .slice YB q2.length yd, .slice ZB q3.length zd] 30
            replace lw := lw.next hbx
            replace bw := bw.next hbx
            replace bs := bs.next hbx
            replace rr := rr.next hbx
            have rs : R6 U2 w6.heap.size XB YB ZB xd yd zd q1 q2 q3 := ⟨bx1, rw1.next hbx, cp1⟩
            clear hbx bx1 rw1 cp1
            have kV := rvalid_any XA YA ZA xc yc zc ps ls cs U2 rr.r (by omega) (by omega) (by omega)
            rw [HVAL.out] at kV
            obtain ⟨p0, p1, p2⟩ := rr.box.c3
            have hp := HU2.out
            go_wp2_with fail
            clear hp p0 p1 p2
            refine kV.mono ?_
            rintro e w7 ⟨rfl, hbx⟩
            replace lw := lw.next hbx
            replace bw := bw.next hbx
            replace bs := bs.next hbx
            replace rr := rr.next hbx
            replace rs := rs.next hbx
            clear kV hbx
            have kV := valid16_any XA YA ZA xc yc zc ps ls cs w7 rr.r (by omega)
            rw [HVAL.out] at kV
            obtain ⟨p0, p1, p2⟩ := rr.box.c3
            go_wp2_with fail
            clear p0 p1 p2
            refine kV.mono ?_
            rintro e w8 ⟨rfl, hbx⟩
            replace lw := lw.next hbx
            replace bw := bw.next hbx
            replace bs := bs.next hbx
            replace rr := rr.next hbx
            replace rs := rs.next hbx
            clear kV hbx HVAL
            obtain ⟨X, HX, xk, hBX, -⟩ := boxes1 w8 #[.slice none 0 0, .slice none 0 0, .slice none 0 0] 30
            have hs : w8.heap.size + 1 ≤ X.heap.size := xk.lt
            have rc : RC X (w8.heap.size + 1) w8.heap.size [] [] [] (.slice none 0 0) (.slice none 0 0) (.slice none 0 0) := ⟨xk, own_nil _ _ _ _ _, own_nil _ _ _ _ _, own_nil _ _ _ _ _⟩
            clear xk
            have hX := HX.out
            go_wp2_with fail
            clear hX
            go_loopw [16] (fun si wq => ∃ (k : Nat) (o1 : List P5) (v1 : Value), k ≤ ps.length ∧ si = .int .i64 k ∧ Below w8.heap.size w8 wq ∧ w8.heap.size + 1 ≤ wq.heap.size ∧ RC wq (w8.heap.size + 1) w8.heap.size o1 [] [] v1 (.slice none 0 0) (.slice none 0 0) ∧ o1.length ≤ k ∧ Hid (o1 = (ps.take k).filter (fun p : P5 => M.inIds St.id (os.map (·.s)) p.a && M.inIds St.id (os.map (·.s)) p.b))) (fun si _ => ps.length - (intOf si).toNat)
            case atStart => exact ⟨0, [], _, Nat.zero_le _, rfl, hBX, hs, rc, Nat.zero_le _, Lib.hid rfl⟩
            case round =>
              clear hBX hs rc
              obtain ⟨k, o1, v1, hk, rfl, hBX, hs, rc, hol, HO⟩ := hrel
              have rr' := rr.next hBX
              obtain ⟨p0, p1, p2⟩ := rr'.box.c3
              by_cases hlt : k < ps.length
              case pos =>
                have q0 : decide ((k : Int) < (ps.length : Int)) = true := decide_eq_true (by omega)
                have x0 : (0 : Int) ≤ (k : Int) := by omega
                have x1 : (k : Int) < (ps.length : Int) := by omega
                have HY := Lib.hid (fun h => filter_yes (f := (fun p : P5 => M.inIds St.id (os.map (·.s)) p.a && M.inIds St.id (os.map (·.s)) p.b)) hlt HO.out h)
                have HN := Lib.hid (fun h => filter_no (f := (fun p : P5 => M.inIds St.id (os.map (·.s)) p.a && M.inIds St.id (os.map (·.s)) p.b)) hlt HO.out h)
                clear HO
                obtain ⟨la, hla, laB, ex0, -⟩ := (rr'.r.p).sp (by decide) hlt
                replace ex0 : wr.cell? (la.add (k * 5)) = some (.int .i64 ps[k].a) := ex0
                obtain ⟨f1, hf1⟩ : ∃ f1, M.inIds St.id (os.map (·.s)) ps[k].a = f1 := ⟨_, rfl⟩
                have kM := among_ok A9 c9 os ps[k].a wr (bs.next hBX).l (by omega)
                rw [hf1] at kM
                subst hla
                go_wp2_with fail
                clear p0 p1 p2 ex0 q0
                refine kM.mono ?_
                rintro e w9 ⟨rfl, hb9⟩
                clear kM
                replace hBX := hBX.trans (hb9.mono hBX.size)
                replace hs := Nat.le_trans hs hb9.size
                replace rc := rc.below hb9
                clear hb9
                replace rr' := rr.next hBX
                cases f1 with
                | false =>
                  have HE := Lib.hid (HN.out (by rw [hf1]; rfl))
                  clear HY HN hf1
                  go_wp2_with fail
                  go_roundw
                  case rel => exact ⟨k + 1, o1, _, hlt, by go_num, hBX, hs, rc, by omega, HE⟩
                  case measure => simp [intOf]; omega
                | true =>
                  obtain ⟨p0, p1, p2⟩ := rr'.box.c3
                  obtain ⟨la2, hla2, laB2, ex0, hq⟩ := (rr'.r.p).sp (by decide) hlt
                  obtain rfl := Option.some.inj hla2
                  have ex1 := hq 1 (by decide) (by decide)
                  clear hq
                  replace ex1 : w9.cell? ⟨(la.add (k * 5)).block, (la.add (k * 5)).off + 1, none⟩ = some (.int .i64 ps[k].b) := ex1
                  clear ex0
                  obtain ⟨f2, hf2⟩ : ∃ f2, M.inIds St.id (os.map (·.s)) ps[k].b = f2 := ⟨_, rfl⟩
                  have kM := among_ok A9 c9 os ps[k].b w9 (bs.next hBX).l (by omega)
                  rw [hf2] at kM
                  go_wp2_with fail
                  clear p0 p1 p2 ex1
                  refine kM.mono ?_
                  rintro e w10 ⟨rfl, hb9⟩
                  clear kM
                  replace hBX := hBX.trans (hb9.mono hBX.size)
                  replace hs := Nat.le_trans hs hb9.size
                  replace rc := rc.below hb9
                  clear hb9
                  replace rr' := rr.next hBX
                  cases f2 with
                  | false =>
                    have HE := Lib.hid (HN.out (by rw [hf1, hf2]; rfl))
                    clear HY HN hf1 hf2
                    go_wp2_with fail
                    go_roundw
                    case rel => exact ⟨k + 1, o1, _, hlt, by go_num, hBX, hs, rc, by omega, HE⟩
                    case measure => simp [intOf]; omega
                  | true =>
                    have HE := Lib.hid (HY.out (by rw [hf1, hf2]; rfl))
                    clear HY HN hf1 hf2
                    go_wp2_with fail
                    refine hol_p0 (some la) YA ZA xc yc zc ps ls cs w10 w5.heap.size w8.heap.size k rr' w8 v1 (.slice none 0 0) (.slice none 0 0) o1 [] [] rc hBX hs hlt (by omega) (by kernel_rfl) ?_
                    rintro z124 z125 z126 z127 z128 z129 z130 z131 z132 z133 w11 v' rc8 hB8 hs8
                    go_wp2_with fail
                    go_roundw
                    case rel => exact ⟨k + 1, _, _, hlt, by go_num, hB8, hs8, rc8, by rw [List.length_append, List.length_singleton]; omega, HE⟩
                    case measure => simp [intOf]; omega
              case neg =>
                obtain rfl : k = ps.length := by omega
                have q0 : decide ((ps.length : Int) < (ps.length : Int)) = false := decide_eq_false (by omega)
                obtain rfl : q1 = o1 := by have := HO.out; rw [List.take_of_length_le (Nat.le_refl _)] at this; rw [this]; exact HQ1.out
                clear HO hol hlt hk HQ1
                go_wp2_with fail
                clear p0 p1 p2 q0 rr'
                go_loopw [17] (fun si wq => ∃ (k : Nat) (o2 : List P5) (v2 : Value), k ≤ ls.length ∧ si = .int .i64 k ∧ Below w8.heap.size w8 wq ∧ w8.heap.size + 1 ≤ wq.heap.size ∧ RC wq (w8.heap.size + 1) w8.heap.size q1 o2 [] v1 v2 (.slice none 0 0) ∧ o2.length ≤ k ∧ Hid (o2 = (ls.take k).filter (fun p : P5 => M.inIds St.id (os.map (·.s)) p.a && M.inIds St.id (os.map (·.s)) p.b))) (fun si _ => ls.length - (intOf si).toNat)
                case atStart => exact ⟨0, [], _, Nat.zero_le _, rfl, hBX, hs, rc, Nat.zero_le _, Lib.hid rfl⟩
                case round =>
                  clear hBX hs rc
                  obtain ⟨k, o2, v2, hk, rfl, hBX, hs, rc, hol, HO⟩ := hrel
                  have rr' := rr.next hBX
                  obtain ⟨p0, p1, p2⟩ := rr'.box.c3
                  by_cases hlt : k < ls.length
                  case pos =>
                    have q0 : decide ((k : Int) < (ls.length : Int)) = true := decide_eq_true (by omega)
                    have x0 : (0 : Int) ≤ (k : Int) := by omega
                    have x1 : (k : Int) < (ls.length : Int) := by omega
                    have HY := Lib.hid (fun h => filter_yes (f := (fun p : P5 => M.inIds St.id (os.map (·.s)) p.a && M.inIds St.id (os.map (·.s)) p.b)) hlt HO.out h)
                    have HN := Lib.hid (fun h => filter_no (f := (fun p : P5 => M.inIds St.id (os.map (·.s)) p.a && M.inIds St.id (os.map (·.s)) p.b)) hlt HO.out h)
                    clear HO
                    obtain ⟨la, hla, laB, ex0, -⟩ := (rr'.r.l).sp (by decide) hlt
                    replace ex0 : wr.cell? (la.add (k * 5)) = some (.int .i64 ls[k].a) := ex0
                    obtain ⟨f1, hf1⟩ : ∃ f1, M.inIds St.id (os.map (·.s)) ls[k].a = f1 := ⟨_, rfl⟩
                    have kM := among_ok A9 c9 os ls[k].a wr (bs.next hBX).l (by omega)
                    rw [hf1] at kM
                    subst hla
                    go_wp2_with fail
                    clear p0 p1 p2 ex0 q0
                    refine kM.mono ?_
                    rintro e w9 ⟨rfl, hb9⟩
                    clear kM
                    replace hBX := hBX.trans (hb9.mono hBX.size)
                    replace hs := Nat.le_trans hs hb9.size
                    replace rc := rc.below hb9
                    clear hb9
                    replace rr' := rr.next hBX
                    cases f1 with
                    | false =>
                      have HE := Lib.hid (HN.out (by rw [hf1]; rfl))
                      clear HY HN hf1
                      go_wp2_with fail
                      go_roundw
                      case rel => exact ⟨k + 1, o2, _, hlt, by go_num, hBX, hs, rc, by omega, HE⟩
                      case measure => simp [intOf]; omega
                    | true =>
                      obtain ⟨p0, p1, p2⟩ := rr'.box.c3
                      obtain ⟨la2, hla2, laB2, ex0, hq⟩ := (rr'.r.l).sp (by decide) hlt
                      obtain rfl := Option.some.inj hla2
                      have ex1 := hq 1 (by decide) (by decide)
                      clear hq
                      replace ex1 : w9.cell? ⟨(la.add (k * 5)).block, (la.add (k * 5)).off + 1, none⟩ = some (.int .i64 ls[k].b) := ex1
                      clear ex0
                      obtain ⟨f2, hf2⟩ : ∃ f2, M.inIds St.id (os.map (·.s)) ls[k].b = f2 := ⟨_, rfl⟩
                      have kM := among_ok A9 c9 os ls[k].b w9 (bs.next hBX).l (by omega)
                      rw [hf2] at kM
                      go_wp2_with fail
                      clear p0 p1 p2 ex1
                      refine kM.mono ?_
                      rintro e w10 ⟨rfl, hb9⟩
                      clear kM
                      replace hBX := hBX.trans (hb9.mono hBX.size)
                      replace hs := Nat.le_trans hs hb9.size
                      replace rc := rc.below hb9
                      clear hb9
                      replace rr' := rr.next hBX
                      cases f2 with
                      | false =>
                        have HE := Lib.hid (HN.out (by rw [hf1, hf2]; rfl))
                        clear HY HN hf1 hf2
                        go_wp2_with fail
                        go_roundw
                        case rel => exact ⟨k + 1, o2, _, hlt, by go_num, hBX, hs, rc, by omega, HE⟩
                        case measure => simp [intOf]; omega
                      | true =>
                        have HE := Lib.hid (HY.out (by rw [hf1, hf2]; rfl))
                        clear HY HN hf1 hf2
                        go_wp2_with fail
                        refine hol_p1 XA (some la) ZA xc yc zc ps ls cs w10 w5.heap.size w8.heap.size k rr' w8 v1 v2 (.slice none 0 0) q1 o2 [] rc hBX hs hlt (by omega) (by kernel_rfl) ?_
                        rintro z159 z160 z161 z162 z163 z164 z165 z166 z167 z168 w11 v' rc8 hB8 hs8
                        go_wp2_with fail
                        go_roundw
                        case rel => exact ⟨k + 1, _, _, hlt, by go_num, hB8, hs8, rc8, by rw [List.length_append, List.length_singleton]; omega, HE⟩
                        case measure => simp [intOf]; omega
                  case neg =>
                    obtain rfl : k = ls.length := by omega
                    have q0 : decide ((ls.length : Int) < (ls.length : Int)) = false := decide_eq_false (by omega)
                    obtain rfl : q2 = o2 := by have := HO.out; rw [List.take_of_length_le (Nat.le_refl _)] at this; rw [this]; exact HQ2.out
                    clear HO hol hlt hk HQ2
                    go_wp2_with fail
                    clear p0 p1 p2 q0 rr'
                    obtain ⟨A2, d2, rfl, hd2, -⟩ := own_sliceC (by decide) rc.l
                    obtain ⟨A1, d1, rfl, hd1, -⟩ := own_sliceC (by decide) rc.p
                    go_loopw [18, 19, 20, 21] (fun si _ _ _ wq => ∃ (k : Nat) (o3 : List P4) (v3 : Value), k ≤ cs.length ∧ si = .int .i64 k ∧ Below w8.heap.size w8 wq ∧ w8.heap.size + 1 ≤ wq.heap.size ∧ RC wq (w8.heap.size + 1) w8.heap.size q1 q2 o3 (.slice A1 q1.length d1) (.slice A2 q2.length d2) v3 ∧ o3.length ≤ k ∧ Hid (o3 = (cs.take k).filter (fun c : P4 => M.loaded q2 c.a))) (fun si _ _ _ _ => cs.length - (intOf si).toNat)
                    case atStart => exact ⟨0, [], _, Nat.zero_le _, rfl, hBX, hs, rc, Nat.zero_le _, Lib.hid rfl⟩
                    case round =>
                      clear hBX hs rc
                      obtain ⟨k, o3, v3, hk, rfl, hBX, hs, rc, hol, HO⟩ := hrel
                      have rr' := rr.next hBX
                      obtain ⟨p0, p1, p2⟩ := rr'.box.c3
                      by_cases hlt : k < cs.length
                      case pos =>
                        have q0 : decide ((k : Int) < (cs.length : Int)) = true := decide_eq_true (by omega)
                        have HY := Lib.hid (fun h => filter_yes (f := (fun c : P4 => M.loaded q2 c.a)) hlt HO.out h)
                        have HN := Lib.hid (fun h => filter_no (f := (fun c : P4 => M.loaded q2 c.a)) hlt HO.out h)
                        clear HO
                        go_wp2_with fail
                        clear q0 p0 p1 p2 rr'
                        go_loopw [20] (fun sk wq => ∃ c : Nat, c ≤ ls.length ∧ sk = .int .i64 c ∧ Below w8.heap.size w8 wq ∧ w8.heap.size + 1 ≤ wq.heap.size ∧ RC wq (w8.heap.size + 1) w8.heap.size q1 q2 o3 (.slice A1 q1.length d1) (.slice A2 q2.length d2) v3) (fun sk _ => ls.length - (intOf sk).toNat)
                        case atStart => exact ⟨0, Nat.zero_le _, rfl, hBX, hs, rc⟩
                        case round =>
                          clear hBX hs rc
                          obtain ⟨c, hc, rfl, hBX, hs, rc⟩ := hrel
                          have rr' := rr.next hBX
                          obtain ⟨p0, p1, p2⟩ := rr'.box.c3
                          by_cases hlc : c < ls.length
                          case pos =>
                            have q0 : decide ((c : Int) < (ls.length : Int)) = true := decide_eq_true (by omega)
                            go_wp2_with fail
                            clear q0 p0 p1 p2
                            refine hol_no XA YA ZA xc yc zc ps ls cs wr w5.heap.size k c rr' hlc hlt (fun e => HCAP.out _ (List.getElem_mem hlt) _ (List.getElem_mem hlc) e) (HBD.out _ (List.getElem_mem hlc)) (by kernel_rfl) ?_
                            rintro z183 z184 z185 z186 z187 z188 z189 z190 z191 z192 z193 z194 z195 z196 z197 z198 z199 z200 z201 z202 z203 z204 z205 z206 z207 z208 z209 z210 w9 hb9
                            replace hBX := hBX.trans (hb9.mono hBX.size)
                            replace hs := Nat.le_trans hs hb9.size
                            replace rc := rc.below hb9
                            clear hb9 rr'
                            go_wp2_with fail
                            go_roundw
                            case rel => exact ⟨c + 1, hlc, by go_num, hBX, hs, rc⟩
                            case measure => simp [intOf]; omega
                          case neg =>
                            obtain rfl : c = ls.length := by omega
                            have q0 : decide ((ls.length : Int) < (ls.length : Int)) = false := decide_eq_false (by omega)
                            clear hlc hc
                            go_wp2_with fail
                            clear q0 p0 p1 p2 rr'
                            go_loopw [19, 21] (fun sl sk wq => ∃ (c : Nat) (bq : Bool), c ≤ q2.length ∧ sk = .int .i64 c ∧ sl = .bool bq ∧ Below w8.heap.size w8 wq ∧ w8.heap.size + 1 ≤ wq.heap.size ∧ RC wq (w8.heap.size + 1) w8.heap.size q1 q2 o3 (.slice A1 q1.length d1) (.slice A2 q2.length d2) v3 ∧ Hid (bq = M.loaded (q2.take c) cs[k].a)) (fun _ sk _ => q2.length - (intOf sk).toNat)
                            case atStart => exact ⟨0, false, Nat.zero_le _, rfl, rfl, hBX, hs, rc, Lib.hid rfl⟩
                            case round =>
                              clear hBX hs rc
                              obtain ⟨c, bq, hc, rfl, rfl, hBX, hs, rc, HB⟩ := hrel
                              obtain ⟨y0, y1, y2⟩ := rc.box.c3
                              by_cases hlc : c < q2.length
                              case pos =>
                                have q0 : decide ((c : Int) < (q2.length : Int)) = true := decide_eq_true (by omega)
                                go_wp2_with fail
                                clear q0 y0 y1 y2
                                refine hol_ld XA YA ZA xc yc zc ps ls cs wr w5.heap.size w8.heap.size k c (rr.next hBX) bq q2 A2 d2 (.slice A1 q1.length d1) v3 rc.box (own_slH (by decide) rc.l) hlc hlt (by kernel_rfl) ?_
                                rintro z219 z220 z221 z222 z223 z224 z225 z226 z227 z228 z229 z230 z231 z232 z233 w9 r hr hb9
                                replace hBX := hBX.trans (hb9.mono hBX.size)
                                replace hs := Nat.le_trans hs hb9.size
                                replace rc := rc.below hb9
                                clear hb9
                                have HE : Hid (r = M.loaded (q2.take (c + 1)) cs[k].a) := Lib.hid (by rw [hr, M.loaded_succ hlc, ← HB.out])
                                clear hr HB
                                go_wp2_with fail
                                go_roundw
                                case rel => exact ⟨c + 1, r, hlc, by go_num, rfl, hBX, hs, rc, HE⟩
                                case measure => simp [intOf]; omega
                              case neg =>
                                obtain rfl : c = q2.length := by omega
                                have q0 : decide ((q2.length : Int) < (q2.length : Int)) = false := decide_eq_false (by omega)
                                have HE : Hid (bq = M.loaded q2 cs[k].a) := Lib.hid (by have := HB.out; rwa [List.take_of_length_le (Nat.le_refl _)] at this)
                                clear HB hlc hc
                                cases bq with
                                | false =>
                                  have HE2 := Lib.hid (HN.out HE.out.symm)
                                  clear HY HN HE
                                  go_wp2_with fail
                                  go_roundw
                                  case rel => exact ⟨k + 1, o3, _, hlt, by go_num, hBX, hs, rc, by omega, HE2⟩
                                  case measure => simp [intOf]; omega
                                | true =>
                                  have HE2 := Lib.hid (HY.out HE.out.symm)
                                  clear HY HN HE
                                  go_wp2_with fail
                                  clear q0 y0 y1 y2
                                  refine hol_p2 XA YA ZA xc yc zc ps ls cs wr w5.heap.size w8.heap.size k (rr.next hBX) w8 (.slice A1 q1.length d1) (.slice A2 q2.length d2) v3 q1 q2 o3 rc hBX hs hlt (by omega) (by kernel_rfl) ?_
                                  rintro z236 z237 z238 z239 z240 z241 z242 z243 z244 z245 w11 v' rc8 hB8 hs8
                                  go_wp2_with fail
                                  go_roundw
                                  case rel => exact ⟨k + 1, _, _, hlt, by go_num, hB8, hs8, rc8, by rw [List.length_append, List.length_singleton]; omega, HE2⟩
                                  case measure => simp [intOf]; omega
                      case neg =>
                        obtain rfl : k = cs.length := by omega
                        have q0 : decide ((cs.length : Int) < (cs.length : Int)) = false := decide_eq_false (by omega)
                        obtain rfl : o3 = q3 := by have := HO.out; rw [List.take_of_length_le (Nat.le_refl _)] at this; rw [this]; exact HQ3.out.symm
                        clear HO hol hlt hk HQ3
                        obtain ⟨A3, d3, rfl, hd3, -⟩ := own_sliceC (by decide) rc.c
                        replace lw := lw.next hBX
                        replace rs := rs.next hBX
                        have rk : R6 wr w8.heap.size A1 A2 A3 d1 d2 d3 q1 q2 o3 := ⟨rc.box, ⟨own_slH (by decide) rc.p, own_slH (by decide) rc.l, own_slH (by decide) rc.c⟩, hd1, hd2, hd3⟩
                        clear rr rr' bw bs rc HCAP HBD
                        have kE := same16_any XB YB ZB A1 A2 A3 xd yd zd d1 d2 d3 q1 q2 o3 q1 q2 o3 wr rs.r rk.r (by omega)
                        rw [decide_eq_true ⟨rfl, rfl, rfl⟩] at kE
                        obtain ⟨s0, s1, s2⟩ := rs.box.c3
                        obtain ⟨k0, k1, k2⟩ := rk.box.c3
                        go_wp2_with fail
                        clear q0 p0 p1 p2 s0 s1 s2 k0 k1 k2
                        refine kE.mono ?_
                        rintro e w9 ⟨rfl, hb9⟩
                        replace lw := lw.next hb9
                        clear kE hb9
                        go_wp2_with fail
                        refine lw.known.mono ?_
                        rintro e x9 ⟨rfl, hb9⟩
                        go_wp2_with fail
                        go_ret
                        exact ⟨rfl, hb9⟩
end Go.Proofs.YtciolgmljpamlaaGreatDoor
end
