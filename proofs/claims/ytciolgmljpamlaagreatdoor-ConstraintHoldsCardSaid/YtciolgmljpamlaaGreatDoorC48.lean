/- A bundle of texts: Rf8. -/
import Derived.Test.YtciolgmljpamlaaGreatDoorC31
section
namespace Go.Proofs.YtciolgmljpamlaaGreatDoor
open Go Go.RowKit
set_option maxRecDepth 100000
set_option maxHeartbeats 32000000 in
theorem valid16_any (XA YA ZA : Option Addr) (xc yc zc : Nat) (ps ls : List P5) (cs : List P4) (w : World) (h : RW w XA YA ZA ps ls cs) (hl : ps.length ≤ 9223372036854775807 ∧ ls.length ≤ 9223372036854775807 ∧ cs.length ≤ 9223372036854775807) :
  Calls Tryz.prog 17 #[ruv XA ps.length xc YA ls.length yc ZA cs.length zc] w fun e w' => e = .returned (.bool (M.rvalid ps ls cs)) ∧ Below w.heap.size w w' := by
 obtain ⟨V, HW, xa, hB, -⟩ := boxes1 w #[.slice XA ps.length xc, .slice YA ls.length yc, .slice ZA cs.length zc] 30
 have ra := h.next hB
 obtain ⟨l1, l2, l3⟩ := hl
 obtain ⟨p0, p1, p2⟩ := xa.c3
 obtain ⟨r, hr⟩ : ∃ r, M.rvalid ps ls cs = r := ⟨_, rfl⟩
 have HR := Lib.hid hr
 rw [hr]
 clear hr
 have hV := HW.out
 by_cases e0 : 4096 < ps.length
 case pos =>
  have HF : Hid (false = r) := Lib.hid (by rw [← HR.out]; exact (M.rv_no1 (M.vl_long e0)).symm)
  have q0 : decide ((4096 : Int) < (ps.length : Int)) = true := decide_eq_true (by omega)
  go_enter Tryz.func17, Tryz.ntmps17
  go_wp2_with fail
  go_ret
  exact ⟨ret_bool HF.out, hB⟩
 have q0 : decide ((4096 : Int) < (ps.length : Int)) = false := decide_eq_false (by omega)
 by_cases e1 : 1024 < ls.length
 case pos =>
  have HF : Hid (false = r) := Lib.hid (by rw [← HR.out]; exact (M.rv_no2 (M.vl_long e1)).symm)
  have q1 : decide ((1024 : Int) < (ls.length : Int)) = true := decide_eq_true (by omega)
  go_enter Tryz.func17, Tryz.ntmps17
  go_wp2_with fail
  go_ret
  exact ⟨ret_bool HF.out, hB⟩
 have q1 : decide ((1024 : Int) < (ls.length : Int)) = false := decide_eq_false (by omega)
 by_cases e2 : 1024 < cs.length
 case pos =>
  have HF : Hid (false = r) := Lib.hid (by rw [← HR.out]; exact (M.rv_no3 (M.vl_long e2)).symm)
  have q2 : decide ((1024 : Int) < (cs.length : Int)) = true := decide_eq_true (by omega)
  go_enter Tryz.func17, Tryz.ntmps17
  go_wp2_with fail
  go_ret
  exact ⟨ret_bool HF.out, hB⟩
 have q2 : decide ((1024 : Int) < (cs.length : Int)) = false := decide_eq_false (by omega)
 go_enter Tryz.func17, Tryz.ntmps17
 go_wp2_with fail
 clear hV p0 p1 p2 q0 q1 q2
 go_loopw [3, 4] (fun i _ wr => ∃ k : Nat, k ≤ ps.length ∧ i = .int .i64 k ∧ Below V.heap.size V wr ∧ Hid (M.vscan M.vPair M.cmp5 ps k = true)) (fun i _ _ => ps.length - (intOf i).toNat)
 case atStart => exact ⟨0, Nat.zero_le _, rfl, Below.refl _ _, Lib.hid rfl⟩
 case round =>
  obtain ⟨k, hk, rfl, hBv, HS⟩ := hrel
  obtain ⟨p0, p1, p2⟩ := (xa.below hBv).c3
  by_cases hlt : k < ps.length
  case pos =>
   have HNk : Hid (M.vstep M.vPair M.cmp5 ps k = false → false = r) := Lib.hid (fun h => by rw [← HR.out]; exact (M.rv_no1 (M.vlist_no hlt h)).symm)
   have HSk : Hid (M.vstep M.vPair M.cmp5 ps k = true → M.vscan M.vPair M.cmp5 ps (k + 1) = true) := Lib.hid (fun h => by rw [M.vscan_succ, HS.out, h]; rfl)
   obtain ⟨la, hla, hlb, a0, hj⟩ := (ra.p.below hBv).sp (by decide) hlt
   have a1 := hj 1 (by decide) (by decide)
   have a2 := hj 2 (by decide) (by decide)
   have a3 := hj 3 (by decide) (by decide)
   have a4 := hj 4 (by decide) (by decide)
   clear hj
   obtain ⟨x, hx⟩ : ∃ x, ps[k] = x := ⟨_, rfl⟩
   rw [hx] at a0 a1 a2 a3 a4
   replace hx := Lib.hid hx
   simp only [p5cell] at a0 a1 a2 a3 a4
   obtain ⟨X, HX, u0, hbX, -⟩ := boxes1 wr (p5c x) 66
   have BX := after_ hBv hbX
   have kA := (ra.p.below BX).more BX.size
   have kx := xa.below BX
   have g0 : (0 : Int) ≤ (k : Int) := by omega
   have g1 : (k : Int) < (ps.length : Int) := by omega
   have hX := HX.out
   have HLA := Lib.hid hla
   subst hla
   go_wp2_with fail
   clear hX
   refine v16_reg0 (some la) YA ZA xc yc zc ps ls cs X w.heap.size wr.heap.size k x kx u0 kA hlt hx.out (by omega) (by kernel_rfl) ?_
   rintro z37 z38 z39 z40 z41 z42 z43 z44 z45 z46 z47 z48 z49 z50 z51 z52 z53 z54 z55 z56 z57 z58 z59 z60 z61 z62 z63 z64 z65 z66 z67 z68 z69 z70 z71 z72 z73 z74 z75 z76 z77 z78 z79 z80 z81 z82 z83 z84 z85 z86 z87 w5 rb hrb hb5
   cases rb
   case true =>
    have HF := Lib.hid (HNk.out (by rw [← Bool.not_eq_true]; intro h; rw [h] at hrb; cases hrb))
    clear hrb
    go_wp2_with fail
    go_ret
    exact ⟨ret_bool HF.out, after_ hB (after_ BX hb5)⟩
   case false =>
    have HS2 := Lib.hid (HSk.out (by rw [← Bool.not_eq_false]; intro h; rw [h] at hrb; cases hrb))
    clear hrb
    go_wp2_with fail
    go_roundw
    case rel => exact ⟨k + 1, hlt, by go_num, after_ BX hb5, HS2⟩
    case measure => simp [intOf]; omega
  case neg =>
   have HY0 : Hid (M.vscan M.vPair M.cmp5 ps ps.length = true) := Lib.hid (by rw [← HS.out]; congr 1; omega)
   clear HS hk
   go_wp2_with fail
   clear hlt p0 p1 p2
   go_loopw [5, 6] (fun i _ wr => ∃ k : Nat, k ≤ ls.length ∧ i = .int .i64 k ∧ Below V.heap.size V wr ∧ Hid (M.vscan M.vLoad M.cmp5 ls k = true)) (fun i _ _ => ls.length - (intOf i).toNat)
   case atStart => exact ⟨0, Nat.zero_le _, rfl, hBv, Lib.hid rfl⟩
   case round =>
    clear hBv
    obtain ⟨k, hk, rfl, hBv, HS⟩ := hrel
    obtain ⟨p0, p1, p2⟩ := (xa.below hBv).c3
    by_cases hlt : k < ls.length
    case pos =>
     have HNk : Hid (M.vstep M.vLoad M.cmp5 ls k = false → false = r) := Lib.hid (fun h => by rw [← HR.out]; exact (M.rv_no2 (M.vlist_no hlt h)).symm)
     have HSk : Hid (M.vstep M.vLoad M.cmp5 ls k = true → M.vscan M.vLoad M.cmp5 ls (k + 1) = true) := Lib.hid (fun h => by rw [M.vscan_succ, HS.out, h]; rfl)
     obtain ⟨la, hla, hlb, a0, hj⟩ := (ra.l.below hBv).sp (by decide) hlt
     have a1 := hj 1 (by decide) (by decide)
     have a2 := hj 2 (by decide) (by decide)
     have a3 := hj 3 (by decide) (by decide)
     have a4 := hj 4 (by decide) (by decide)
     clear hj
     obtain ⟨x, hx⟩ : ∃ x, ls[k] = x := ⟨_, rfl⟩
     rw [hx] at a0 a1 a2 a3 a4
     replace hx := Lib.hid hx
     simp only [p5cell] at a0 a1 a2 a3 a4
     obtain ⟨X, HX, u0, hbX, -⟩ := boxes1 wr (p5c x) 68
     have BX := after_ hBv hbX
     have kA := (ra.l.below BX).more BX.size
     have kx := xa.below BX
     have g0 : (0 : Int) ≤ (k : Int) := by omega
     have g1 : (k : Int) < (ls.length : Int) := by omega
     have hX := HX.out
     have HLA := Lib.hid hla
     subst hla
     go_wp2_with fail
     clear hX
     refine v16_reg1 XA (some la) ZA xc yc zc ps ls cs X w.heap.size wr.heap.size k x kx u0 kA hlt hx.out (by omega) (by kernel_rfl) ?_
     rintro z101 z102 z103 z104 z105 z106 z107 z108 z109 z110 z111 z112 z113 z114 z115 z116 z117 z118 z119 z120 z121 z122 z123 z124 z125 z126 z127 z128 z129 z130 z131 z132 z133 z134 z135 z136 z137 z138 z139 z140 z141 z142 z143 z144 z145 z146 z147 z148 z149 z150 z151 w5 rb hrb hb5
     cases rb
     case true =>
      have HF := Lib.hid (HNk.out (by rw [← Bool.not_eq_true]; intro h; rw [h] at hrb; cases hrb))
      clear hrb
      go_wp2_with fail
      go_ret
      exact ⟨ret_bool HF.out, after_ hB (after_ BX hb5)⟩
     case false =>
      have HS2 := Lib.hid (HSk.out (by rw [← Bool.not_eq_false]; intro h; rw [h] at hrb; cases hrb))
      clear hrb
      go_wp2_with fail
      go_roundw
      case rel => exact ⟨k + 1, hlt, by go_num, after_ BX hb5, HS2⟩
      case measure => simp [intOf]; omega
    case neg =>
     have HY1 : Hid (M.vscan M.vLoad M.cmp5 ls ls.length = true) := Lib.hid (by rw [← HS.out]; congr 1; omega)
     clear HS hk
     go_wp2_with fail
     clear hlt p0 p1 p2
     go_loopw [7, 8] (fun i _ wr => ∃ k : Nat, k ≤ cs.length ∧ i = .int .i64 k ∧ Below V.heap.size V wr ∧ Hid (M.vscan M.vCap M.cmp4 cs k = true)) (fun i _ _ => cs.length - (intOf i).toNat)
     case atStart => exact ⟨0, Nat.zero_le _, rfl, hBv, Lib.hid rfl⟩
     case round =>
      clear hBv
      obtain ⟨k, hk, rfl, hBv, HS⟩ := hrel
      obtain ⟨p0, p1, p2⟩ := (xa.below hBv).c3
      by_cases hlt : k < cs.length
      case pos =>
       have HNk : Hid (M.vstep M.vCap M.cmp4 cs k = false → false = r) := Lib.hid (fun h => by rw [← HR.out]; exact (M.rv_no3 (M.vlist_no hlt h)).symm)
       have HSk : Hid (M.vstep M.vCap M.cmp4 cs k = true → M.vscan M.vCap M.cmp4 cs (k + 1) = true) := Lib.hid (fun h => by rw [M.vscan_succ, HS.out, h]; rfl)
       obtain ⟨la, hla, hlb, a0, hj⟩ := (ra.c.below hBv).sp (by decide) hlt
       have a1 := hj 1 (by decide) (by decide)
       have a2 := hj 2 (by decide) (by decide)
       have a3 := hj 3 (by decide) (by decide)
       clear hj
       obtain ⟨x, hx⟩ : ∃ x, cs[k] = x := ⟨_, rfl⟩
       rw [hx] at a0 a1 a2 a3
       replace hx := Lib.hid hx
       simp only [p4cell] at a0 a1 a2 a3
       obtain ⟨X, HX, u0, hbX, -⟩ := boxes1 wr (p4c x) 71
       have BX := after_ hBv hbX
       have kA := (ra.c.below BX).more BX.size
       have kx := xa.below BX
       have g0 : (0 : Int) ≤ (k : Int) := by omega
       have g1 : (k : Int) < (cs.length : Int) := by omega
       have hX := HX.out
       have HLA := Lib.hid hla
       subst hla
       go_wp2_with fail
       clear hX
       refine v16_reg2 XA YA (some la) xc yc zc ps ls cs X w.heap.size wr.heap.size k x kx u0 kA hlt hx.out (by omega) (by kernel_rfl) ?_
       rintro z165 z166 z167 z168 z169 z170 z171 z172 z173 z174 z175 z176 z177 z178 z179 z180 z181 z182 z183 z184 z185 z186 z187 z188 z189 z190 z191 z192 z193 z194 z195 z196 z197 z198 z199 z200 z201 z202 w5 rb hrb hb5
       cases rb
       case true =>
        have HF := Lib.hid (HNk.out (by rw [← Bool.not_eq_true]; intro h; rw [h] at hrb; cases hrb))
        clear hrb
        go_wp2_with fail
        go_ret
        exact ⟨ret_bool HF.out, after_ hB (after_ BX hb5)⟩
       case false =>
        have HS2 := Lib.hid (HSk.out (by rw [← Bool.not_eq_false]; intro h; rw [h] at hrb; cases hrb))
        clear hrb
        go_wp2_with fail
        go_roundw
        case rel => exact ⟨k + 1, hlt, by go_num, after_ BX hb5, HS2⟩
        case measure => simp [intOf]; omega
      case neg =>
       have HY2 : Hid (M.vscan M.vCap M.cmp4 cs cs.length = true) := Lib.hid (by rw [← HS.out]; congr 1; omega)
       clear HS hk
       go_wp2_with fail
       clear hlt p0 p1 p2
       have HF : Hid (true = r) := Lib.hid (by rw [← HR.out]; exact (M.rvalid_and.2 ⟨M.vl_yes (by omega) HY0.out, M.vl_yes (by omega) HY1.out, M.vl_yes (by omega) HY2.out⟩).symm)
       go_ret
       exact ⟨ret_bool HF.out, after_ hB hBv⟩
       end Go.Proofs.YtciolgmljpamlaaGreatDoor
end
