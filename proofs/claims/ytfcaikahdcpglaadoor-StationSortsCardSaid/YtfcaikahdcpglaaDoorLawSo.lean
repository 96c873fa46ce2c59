/- The walk of the law StationSorts. -/
import Derived.Test.YtfcaikahdcpglaaDoorLawF
import Derived.Test.YtfcaikahdcpglaaDoorRSrt
namespace Go.Proofs.YtfcaikahdcpglaaDoor
open Go Go.RowKit
set_option maxRecDepth 100000

theorem own_ptr2 {α : Type} {size : Nat} {cell : α → Nat → Value} {w : World} {base : Nat} {e : TypeId} {A : Option Addr} {c n : Nat} {xs : List α} (h : w.ownsRow base e size (.slice A n c) n (flat size cell xs)) (hn : 0 < n) : ∃ g, A = some ⟨g, 0, none⟩ := by
  rcases h.2 with h2 | ⟨g, cap, cur, h1, _⟩
  · have := Value.slice.inj h2.1
    omega
  · exact ⟨g, (Value.slice.inj h1).1⟩
/-- What the first station with a number is. -/
theorem M.find_first {l : List St} {id : Int} {j : Nat} (hj : j < l.length) (h : l[j].id = id) (hb : ∀ i (hi : i < l.length), i < j → l[i].id ≠ id) : (l.find? fun s => decide (s.id = id)) = some l[j] := by
  rw [List.find?_eq_some_iff_getElem]
  refine ⟨by simpa using h, j, hj, rfl, fun i hi => ?_⟩
  have := hb i (by omega) hi
  simpa using this

/-- What the law holds: the list that came in, and its copy. -/
structure SW (w : World) (LA : Option Addr) (es : List SE) (WA : Option Addr) (os : List SE) : Prop where
  l : Sl 8 secell w w.heap.size LA es
  p : Pats w es
  wl : Sl 8 secell w w.heap.size WA os
  wp : Pats w os
  tab : Tab w
theorem SW.below {w w' : World} {LA WA : Option Addr} {es os : List SE} (h : SW w LA es WA os) (hb : Below w.heap.size w w') : SW w' LA es WA os :=
  ⟨(h.l.below hb).more hb.size, h.p.below hb, (h.wl.below hb).more hb.size, h.wp.below hb, h.tab.kept hb⟩
theorem Outs.sl {w : World} {base : Nat} {v : Value} {os : List SE} (h : Outs w base v os) : ∃ A c, v = .slice A os.length c ∧ Sl 8 secell w w.heap.size A os ∧ Pats w os := by
  obtain ⟨A, c, e, hS⟩ := own_slice (by decide) h.own
  exact ⟨A, c, e, hS, fun e he => Sl.of_own (by decide) (h.pat e he)⟩

set_option maxHeartbeats 16000000 in
theorem stationSorts_walk (LA : Option Addr) (lc : Nat) (es : List SE) (id : Int) (w : World) (ht : Tab w) (hL : Sl 8 secell w w.heap.size LA es) (hP : Pats w es) :
    Calls Tryd.prog 5 #[.slice LA es.length lc, .int .i64 id] w (LawTrue w) := by
  obtain ⟨i8, hi8, hz08, hz18, hz28⟩ := info_parts seInfo
  have Hi8 := Lib.hid hi8; have Hz08 := Lib.hid hz08; have Hz18 := Lib.hid hz18; have Hz28 := Lib.hid hz28
  clear hi8 hz08 hz18 hz28
  go_enter Tryd.func5, Tryd.ntmps5
  go_wp2_with fail
  refine (big_any 0 0 none none 0 0 0 0 LA lc es w hL).mono ?_
  rintro e w1 ⟨rfl, B1⟩
  cases hbig : M.big13 0 0 (es.map (·.s)) with
  | true =>
    go_wp2_with fail
    refine (known_any w1 (ht.kept B1)).mono ?_
    rintro e w2 ⟨rfl, hb2⟩
    go_wp2_with fail
    go_ret
    exact ⟨rfl, after_ B1 hb2⟩
  | false =>
    obtain ⟨hl8, hpat⟩ : es.length ≤ 8 ∧ ∀ e ∈ es, e.s.pat.length ≤ 1000 := by
      unfold M.big13 at hbig
      simp at hbig
      refine ⟨by omega, fun e he => ?_⟩
      have := hbig.2 e he
      omega
    clear hbig
    go_wp2_with fail
    go_loopw [5, 6, 7] (fun v f i wr => ∃ (k : Nat) (b : Bool) (os : List SE), k ≤ es.length ∧ i = .int .i64 k ∧ Below w.heap.size w wr ∧ f = .bool b ∧ os.length = k ∧ Outs wr w.heap.size v os ∧ Hid (os.map (·.s) = (es.map (·.s)).take k) ∧ Hid (b = ((es.map (·.s)).take k).all M.svalid)) (fun _ _ i _ => es.length - (intOf i).toNat)
    case atStart => exact ⟨0, true, [], Nat.zero_le _, rfl, B1, rfl, rfl, Outs.nil_ _ _ _ (own_nil _ _ _ (α := SE) 8 secell), Lib.hid rfl, Lib.hid rfl⟩
    case round =>
      obtain ⟨k, b, os, hk, rfl, hB, rfl, hol, hO, HOS, HB⟩ := hrel
      by_cases hlt : k < es.length
      · obtain ⟨la, rfl, hlb, a0, a1, a2, a3, a4, a5, a6, a7⟩ := ((hL.below hB).more hB.size).st8 hlt
        have hS := (hP.below hB).at_ hlt
        have hpk := hpat _ (List.getElem_mem hlt)
        have HT : Hid ((es.map (·.s)).take (k + 1) = (es.map (·.s)).take k ++ [es[k].s]) := Lib.hid (by rw [List.take_succ_eq_append_getElem (by simpa using hlt)]; simp)
        have HB2 : Hid (∀ b', b' = (b && M.svalid es[k].s) → b' = ((es.map (·.s)).take (k + 1)).all M.svalid) := Lib.hid (fun b' h => by rw [h, HT.out, List.all_append, ← HB.out]; simp)
        obtain ⟨ek, hek⟩ : ∃ ek, es[k] = ek := ⟨_, rfl⟩
        rw [hek] at a0 a1 a2 a3 a4 a5 a6 a7 hS hpk HT HB2
        have HEK := Lib.hid hek
        clear hek
        obtain ⟨s, A, c⟩ := ek
        simp only at a0 a1 a2 a3 a4 a5 a6 a7 hS hpk HT HB2
        go_wp2_with fail
        refine (rSCopy_ok s A c wr hS hpk).mono ?_
        rintro e w6 ⟨A1, c1, rfl, hown1, hb6⟩
        have hO6 := hO.below hb6
        have hB6 := after_ hB hb6
        clear a0 a1 a2 a3 a4 a5 a6 a7
        cases b
        · have HBf := Lib.hid (HB2.out false rfl)
          go_wp2_with (at_builtin; refine wpList_push2 (w0 := w) (cell := secell) (y := ⟨s, A1, c1⟩) rfl _ _ _ rfl w.heap.size w.heap.size 28 i8 _ 80 Tryd.underlying38 Hi8.out Hz08.out Hz18.out Hz28.out rfl (by decide) _ _ _ rfl hO6.own _ _ rfl _ rfl (se_one _) (by unfold maxLen; omega) (by omega) hB6.size (Nat.le_refl _) hB6 ?_; intro v' w' hown' hb' hg' hat'; have hO7 := hO.push hB.size hb6 (y := ⟨s, A1, c1⟩) hown1 hown' hg' hat')
          go_roundw
          case rel => exact ⟨k + 1, false, os ++ [⟨s, A1, c1⟩], hlt, by go_num, hb', rfl, by simp; omega, hO7, Lib.hid (by rw [HT.out, List.map_append, HOS.out]; rfl), HBf⟩
          case measure => simp [intOf]; omega
        · obtain ⟨sv, HSV⟩ : ∃ sv, Hid (M.svalid s = sv) := ⟨_, Lib.hid rfl⟩
          have HBf := Lib.hid (HB2.out sv (by rw [HSV.out]; rfl))
          go_wp2_with (at_builtin; refine wpList_push2 (w0 := w) (cell := secell) (y := ⟨s, A1, c1⟩) rfl _ _ _ rfl w.heap.size w.heap.size 28 i8 _ 80 Tryd.underlying38 Hi8.out Hz08.out Hz18.out Hz28.out rfl (by decide) _ _ _ rfl hO6.own _ _ rfl _ rfl (se_one _) (by unfold maxLen; omega) (by omega) hB6.size (Nat.le_refl _) hB6 ?_; intro v' w' hown' hb' hg' hat'; have hO7 := hO.push hB.size hb6 (y := ⟨s, A1, c1⟩) hown1 hown' hg' hat'; obtain ⟨la', ela, hlb', a0, a1, a2, a3, a4, a5, a6, a7⟩ := ((hL.below hb').more hb'.size).st8 hlt; obtain rfl := Option.some.inj ela; clear ela; rw [HEK.out] at a0 a1 a2 a3 a4 a5 a6 a7; simp only at a0 a1 a2 a3 a4 a5 a6 a7)
          have hS7 := (hP.below hb').at_ hlt
          rw [HEK.out] at hS7
          refine (rSValid_any s A c w' hS7 (by omega)).mono ?_
          rintro e w8 ⟨rfl, hb8⟩
          rw [HSV.out]
          go_wp2_with fail
          go_roundw
          case rel => exact ⟨k + 1, sv, os ++ [⟨s, A1, c1⟩], hlt, by go_num, after_ hb' hb8, rfl, by simp; omega, hO7.below hb8, Lib.hid (by rw [HT.out, List.map_append, HOS.out]; rfl), HBf⟩
          case measure => simp [intOf]; omega
      · have hkl : k = es.length := by omega
        have HOS2 : Hid (os.map (·.s) = es.map (·.s)) := Lib.hid (by rw [HOS.out, List.take_of_length_le (by simp; omega)])
        have HB2 : Hid (b = (es.map (·.s)).all M.svalid) := Lib.hid (by rw [HB.out, List.take_of_length_le (by simp; omega)])
        have hol2 : os.length = es.length := by omega
        obtain ⟨WA, wc, rfl, hW1, hW2⟩ := hO.sl
        have sw : SW wr LA es WA os := ⟨(hL.below hB).more hB.size, hP.below hB, hW1, hW2, ht.kept hB⟩
        clear hO HOS HB hkl hol hW1 hW2
        go_wp2_with fail
        refine (find_any LA lc es id wr sw.l sw.p (by omega) hpat).mono ?_
        rintro e w2 ⟨FA, fc, rfl, hF, -, hb2⟩
        have B2 := after_ hB hb2
        replace sw := sw.below hb2
        obtain ⟨fs, fe, HFD⟩ : ∃ fs fe, Hid (M.find (es.map (·.s)) id = (fs, fe)) := ⟨_, _, Lib.hid rfl⟩
        rw [HFD.out] at hF ⊢
        simp only at hF ⊢
        obtain ⟨X, HX, f0, hbX, -⟩ := boxes1 w2 (stc fs FA fc) 28
        have BX := after_ B2 hbX
        replace sw := sw.below hbX
        replace hF := (hF.below hbX).more hbX.size
        have hX := HX.out
        go_wp2_with fail
        clear hX
        have HE : Hid (((es.length : Int)) - 1 = (es.length : Int) - 1) := Lib.hid rfl
        go_loop [10, 11] (fun a i => ∃ m : Nat, m ≤ es.length ∧ i = .int .i64 ((m : Int) - 1) ∧ ((a = .int .i64 (-1) ∧ Hid (∀ j (hj : j < es.length), m ≤ j → es[j].s.id ≠ id)) ∨ ∃ j, ∃ hj : j < es.length, m ≤ j ∧ a = .int .i64 j ∧ Hid (es[j].s.id = id) ∧ Hid (∀ i (hi : i < es.length), m ≤ i → i < j → es[i].s.id ≠ id))) (fun _ i => (intOf i + 1).toNat)
        case atStart => exact ⟨es.length, Nat.le_refl _, rfl, .inl ⟨rfl, Lib.hid (fun j hj h => absurd h (by omega))⟩⟩
        case round =>
          obtain ⟨m, hm, rfl, hcase⟩ := hrel
          by_cases hm0 : 0 < m
          · obtain ⟨k, rfl⟩ : ∃ k, m = k + 1 := ⟨m - 1, by omega⟩
            have hke : k < es.length := by omega
            rw [show (((k + 1 : Nat) : Int) - 1) = (k : Int) by omega]
            obtain ⟨la, rfl, hlb, a0, -⟩ := sw.l.st8 hke
            by_cases he : es[k].s.id = id
            · have q : (es[k].s.id == id) = true := by simp [he]
              have HID := Lib.hid he
              clear he hcase
              go_wp2_with fail
              go_round
              case rel => exact ⟨k, by omega, by go_num, .inr ⟨k, hke, Nat.le_refl _, rfl, HID, Lib.hid (fun i hi h1 h2 => absurd h1 (by omega))⟩⟩
              case measure => simp [intOf]
            · have q : (es[k].s.id == id) = false := by simp [he]
              have HC : Hid (∀ a, ((a = Value.int .i64 (-1) ∧ Hid (∀ j (hj : j < es.length), k + 1 ≤ j → es[j].s.id ≠ id)) ∨ ∃ j, ∃ hj : j < es.length, k + 1 ≤ j ∧ a = .int .i64 j ∧ Hid (es[j].s.id = id) ∧ Hid (∀ i (hi : i < es.length), k + 1 ≤ i → i < j → es[i].s.id ≠ id)) → ((a = Value.int .i64 (-1) ∧ Hid (∀ j (hj : j < es.length), k ≤ j → es[j].s.id ≠ id)) ∨ ∃ j, ∃ hj : j < es.length, k ≤ j ∧ a = .int .i64 j ∧ Hid (es[j].s.id = id) ∧ Hid (∀ i (hi : i < es.length), k ≤ i → i < j → es[i].s.id ≠ id))) := Lib.hid (fun a h => by
                rcases h with ⟨rfl, H⟩ | ⟨j, hj, h1, rfl, H1, H2⟩
                · exact .inl ⟨rfl, Lib.hid (fun j hj hkj => by
                    by_cases e : j = k
                    · subst e; exact he
                    · exact H.out j hj (by omega))⟩
                · exact .inr ⟨j, hj, by omega, rfl, H1, Lib.hid (fun i hi h3 h4 => by
                    by_cases e : i = k
                    · subst e; exact he
                    · exact H2.out i hi (by omega) h4)⟩)
              clear he
              go_wp2_with fail
              go_round
              case rel => exact ⟨k, by omega, by go_num, HC.out _ hcase⟩
              case measure => simp [intOf]
          · obtain rfl : m = 0 := by omega
            rw [show (((0 : Nat) : Int) - 1) = -1 by omega]
            obtain ⟨f1, f2, f3, f4, f5, f6, f7, f8⟩ := f0.c8
            have lF := f0.lt
            have key : ∃ a, Hid ((∃ fs' fe', fs = fs' ∧ fe = fe' ∧ a = 0) ∨ True) := ⟨0, Lib.hid (.inr trivial)⟩
            clear key
            have kE : Hid (∀ w1, Sl 1 icell w1 w1.heap.size FA zst.pat → Calls Tryd.prog 19 #[stv zst FA fc, stv zst none 0] w1 fun e w' => e = .returned (.bool true) ∧ Below w1.heap.size w1 w') := Lib.hid (fun w1 h1 => keq zst FA none fc 0 w1 h1 Sl.nil_ (by decide))
            by_cases g1 : id < 0
            · obtain ⟨rfl, rfl⟩ : fs = zst ∧ fe = 2 := by
                have := HFD.out
                unfold M.find at this
                rw [if_pos (.inl g1)] at this
                simp only [Prod.mk.injEq] at this
                exact ⟨this.1.symm, this.2.symm⟩
              have q1 : decide (id < 0) = true := decide_eq_true g1
              clear hcase
              go_wp2_with fail
              refine (kE.out X hF).mono ?_
              rintro e w3 ⟨rfl, hb3⟩
              clear f1 f2 f3 f4 f5 f6 f7 f8
              go_wp2_with fail
              have B3 := after_ BX hb3
              have sw3 := sw.below hb3
              refine (sort_any _ lc es w3 sw3.l sw3.p (by omega) hpat).mono ?_
              rintro e w4 ⟨OA, oc, out, rfl, hos, hO, hb4⟩
              have B4 := after_ B3 hb4
              replace sw := sw3.below hb4
              obtain ⟨rl, er, HR⟩ : ∃ rl er, Hid (M.sortR (es.map (·.s)) = (rl, er)) := ⟨_, _, Lib.hid rfl⟩
              rw [HR.out] at hos ⊢
              simp only at hos ⊢
              have h := HR.out
              unfold M.sortR at h
              rw [← HB2.out] at h
              clear HFD f0 lF kE hF
              cases b
              · rw [if_neg (by decide)] at h
                simp only [Prod.mk.injEq] at h
                obtain ⟨rfl, rfl⟩ := h
                obtain rfl : out = [] := by simpa using hos
                rw [List.length_nil]
                go_wp2_with fail
                refine (known_any w4 sw.tab).mono ?_
                rintro e w5 ⟨rfl, hb5⟩
                go_wp2_with fail
                go_ret
                exact ⟨rfl, after_ B4 hb5⟩
              · rw [if_pos rfl] at h
                have HH := Lib.hid h
                clear h
                go_wp2_with fail
                refine (rTwice_any _ lc es w4 sw.l (by omega)).mono ?_
                rintro e w5 ⟨rfl, hb5⟩
                have B5 := after_ B4 hb5
                replace sw := sw.below hb5
                cases htw : M.twice (es.map (·.s)) with
                | true =>
                  have h := HH.out
                  rw [htw, if_pos rfl] at h
                  simp only [Prod.mk.injEq] at h
                  obtain ⟨rfl, rfl⟩ := h
                  obtain rfl : out = [] := by simpa using hos
                  rw [List.length_nil]
                  go_wp2_with fail
                  refine (known_any w5 sw.tab).mono ?_
                  rintro e w6 ⟨rfl, hb6⟩
                  go_wp2_with fail
                  go_ret
                  exact ⟨rfl, after_ B5 hb6⟩
                | false =>
                  have h := HH.out
                  rw [htw, if_neg (by decide)] at h
                  simp only [Prod.mk.injEq] at h
                  obtain ⟨rfl, rfl⟩ := h
                  go_wp2_with fail
                  refine (rSort_ok _ lc es w5 sw.l (by omega)).mono ?_
                  rintro e w6 ⟨WB, wb, rfl, hWO, hb6⟩
                  have B6 := after_ B5 hb6
                  have hout : out.length ≤ 512 := by
                    have h1 := congrArg List.length hos
                    have h2 := M.sortTo_length_le (es.map (·.s)) 512
                    unfold M.sortS at h1
                    rw [List.length_map] at h1
                    omega
                  have HM : Hid (out.map (·.s) = (M.rsortTo es 512).map (·.s)) := Lib.hid (by rw [hos, M.rsort_map htw]; rfl)
                  have HRM : Hid (∀ e ∈ M.rsortTo es 512, e ∈ es) := Lib.hid (fun e he => M.rsort_mem he)
                  generalize M.rsortTo es 512 = rs at *
                  have hrl : rs.length = out.length := by have := congrArg List.length HM.out; simpa using this.symm
                  have HV : Hid (∀ k (hk : k < out.length) (hk' : k < rs.length), out[k].s = rs[k].s ∧ M.svalid out[k].s = true) := Lib.hid (fun k hk hk' => by
                    have h1 : out[k].s = rs[k].s := by
                      have := congrArg (fun l => l[k]?) HM.out
                      simpa [hk, hk'] using this
                    refine ⟨h1, ?_⟩
                    rw [h1]
                    have := HB2.out
                    rw [eq_comm, List.all_eq_true] at this
                    exact this _ (List.mem_map.2 ⟨_, HRM.out _ (List.getElem_mem hk'), rfl⟩))
                  have hO6 := (hO.below hb5).below hb6
                  have HFAR : Hid (∀ k (hk : k < out.length), out[k].blk = none ∨ out[k].blk ≠ (Value.slice OA out.length oc).ownBlock) := Lib.hid (fun k hk => hO.far _ (List.getElem_mem hk))
                  have HAP : Hid (∀ k j (hk : k < out.length) (hj : j < out.length), k < j → out[k].blk = none ∨ out[k].blk ≠ out[j].blk) := Lib.hid (fun k j hk hj hkj => List.pairwise_iff_getElem.1 hO.apart k j hk hj hkj)
                  have HLT : Hid (∀ k (hk : k < out.length) g, out[k].blk = some g → w3.heap.size ≤ g ∧ g < w5.heap.size) := Lib.hid (fun k hk g hg => by
                    have := World.ownsRow.lt (hO.pat _ (List.getElem_mem hk)) g hg
                    have := hb5.size
                    omega)
                  have B36 := after_ (after_ hb4 hb5) hb6
                  have hw5 : w3.heap.size ≤ w5.heap.size := Nat.le_trans hb4.size hb5.size
                  have HOWN := Lib.hid hO6.own
                  have HPAT : Hid (∀ j (hj : j < out.length), OwnP w6 w3.heap.size out[j]) := Lib.hid (fun j hj => hO6.pat _ (List.getElem_mem hj))
                  have hww3 : w.heap.size ≤ w3.heap.size := B3.size
                  rw [hrl] at hWO ⊢
                  have q5 : ((out.length : Int) != (out.length : Int)) = false := by simp
                  clear hO hO6 hos HR HH htw hb4 hb5 sw
                  go_wp2_with fail
                  clear q5
                  go_loopw [15] (fun i wr => ∃ k : Nat, k ≤ out.length ∧ i = .int .i64 k ∧ Below w.heap.size w wr ∧ Below w3.heap.size w6 wr ∧ wr.ownsRow w3.heap.size 28 8 (.slice OA out.length oc) out.length (flat 8 secell out) ∧ wr.ownsRow w5.heap.size 28 8 (.slice WB out.length wb) out.length (flat 8 secell rs) ∧ Hid (∀ j (hj : j < out.length), k ≤ j → OwnP wr w3.heap.size out[j])) (fun i _ => out.length - (intOf i).toNat)
                  case atStart => exact ⟨0, Nat.zero_le _, rfl, B6, Below.refl _ _, HOWN.out, hWO, Lib.hid (fun j hj _ => HPAT.out j hj)⟩
                  case round =>
                    clear hWO HOWN HPAT
                    obtain ⟨k, hk, rfl, hBr, hBr3, hOr, hWr, HPr⟩ := hrel
                    by_cases hlt : k < out.length
                    · have hlt' : k < rs.length := by omega
                      obtain ⟨hse, hsv⟩ := HV.out k hlt hlt'
                      have oL := Sl.of_own (by decide) hOr
                      have wL := Sl.of_own (by decide) hWr
                      obtain ⟨oa, rfl, hob, a0, a1, a2, a3, a4, a5, a6, a7⟩ := oL.st8 hlt
                      obtain ⟨wa, rfl, hwb, b0, b1, b2, b3, b4, b5, b6, b7⟩ := wL.st8 hlt'
                      have pO := HPr.out k hlt (Nat.le_refl _)
                      have sO := Sl.of_own (by decide) pO
                      have sW := (hP.below hBr) _ (HRM.out _ (List.getElem_mem hlt'))
                      rw [← hse] at b0 b1 b2 b3 b4 b5 b6 b7 sW
                      obtain ⟨hp16, hp80⟩ := (M.avalid_iff.1 (M.svalid_iff.1 hsv).2.2.2.2.2.2).2
                      have kF : Hid (∀ w1, Sl 1 icell w1 w1.heap.size out[k].A out[k].s.pat → Sl 1 icell w1 w1.heap.size rs[k].A out[k].s.pat → Calls Tryd.prog 19 #[stv out[k].s out[k].A out[k].c, stv out[k].s rs[k].A rs[k].c] w1 fun e w' => e = .returned (.bool true) ∧ Below w1.heap.size w1 w') := Lib.hid (fun w1 h1 h2 => keq out[k].s out[k].A rs[k].A out[k].c rs[k].c w1 h1 h2 (by omega))
                      have hp3 : 3 < out[k].s.pat.length := by omega
                      have hpv := hp80 out[k].s.pat[3] (List.getElem_mem hp3)
                      have HPO := Lib.hid pO
                      have HP16 := Lib.hid hp16
                      clear pO hse hsv hp80 hp16
                      go_wp2_with fail
                      refine wp_region_kept wr.heap.size wr (by kernel_rfl) (by kernel_rfl) (Below.refl _ _) ?_
                      repeat (go_big_quiet_step ((go_at_call 19; with_reducible exact Kept.calls (Nat.le_refl _) (kF.out _ sO.kept sW.kept))))
                      refine wpQuiet_nil ?_
                      rintro w7 ⟨⟨_, hb7⟩, rfl⟩
                      clear a0 a1 a2 a3 a4 a5 a6 a7 b0 b1 b2 b3 b4 b5 b6 b7 kF sO sW oL wL
                      have B7 := after_ hBr hb7
                      have hO7 := own_below hOr hb7
                      have hW7 := own_below hWr hb7
                      have p7 : OwnP w7 w3.heap.size out[k] := own_below HPO.out hb7
                      have HP7 : Hid (∀ j (hj : j < out.length), k ≤ j → OwnP w7 w3.heap.size out[j]) := Lib.hid (fun j hj h => own_below (HPr.out j hj h) hb7)
                      have B37 := hBr3.trans (hb7.mono (Nat.le_trans B36.size hBr3.size))
                      obtain ⟨oa', eoa, hob', -, -, -, -, -, a5, -, -⟩ := (Sl.of_own (by decide) hO7).st8 hlt
                      obtain rfl := Option.some.inj eoa
                      clear eoa
                      unfold OwnP at p7
                      obtain ⟨g, hgA⟩ := own_ptr2 p7 (by omega)
                      have hgb : out[k].blk = some g := by unfold SE.blk; rw [hgA]; rfl
                      obtain ⟨g1, g2⟩ := HLT.out k hlt g hgb
                      rw [hgA] at p7 a5
                      obtain ⟨m1, m2⟩ := own_at p7 hp3 (j := 0) (by decide)
                      have HG : Hid (∀ z, w7.grownBy (w7.setCell ⟨g, 3, none⟩ z) (some g)) := Lib.hid (fun z => (p7.stored 3 z).2)
                      have HO8 : Hid (∀ z, (w7.setCell ⟨g, 3, none⟩ z).ownsRow w3.heap.size 28 8 (.slice (some oa) out.length oc) out.length (flat 8 secell out)) := Lib.hid (fun z => hO7.kept (HG.out z) (.inr (fun e => by
                        rcases HFAR.out k hlt with h | h
                        · rw [hgb] at h; cases h
                        · exact h (by rw [hgb, e]))))
                      have HW8 : Hid (∀ z, (w7.setCell ⟨g, 3, none⟩ z).ownsRow w5.heap.size 28 8 (.slice (some wa) out.length wb) out.length (flat 8 secell rs)) := Lib.hid (fun z => hW7.kept (HG.out z) (.inr (fun e => by
                        have := (hW7.lt g e).1
                        omega)))
                      have HP8 : Hid (∀ z, ∀ j (hj : j < out.length), k + 1 ≤ j → OwnP (w7.setCell ⟨g, 3, none⟩ z) w3.heap.size out[j]) := Lib.hid (fun z j hj h => World.ownsRow.kept (HP7.out j hj (by omega)) (HG.out z) (by
                        rcases HAP.out k j hlt hj (by omega) with h | h
                        · rw [hgb] at h; cases h
                        · right
                          intro e
                          exact h (by rw [hgb]; exact e.symm)))
                      simp only [Nat.mul_one, Nat.add_zero, icell] at m1 m2
                      generalize out[k].s.pat[3] = pk at *
                      clear hO7 hW7 HP7 p7 HPO hOr hWr HPr
                      rw [HP16.out] at a5
                      clear hp3 HP16
                      go_wp2_with fail
                      go_roundw
                      case rel => exact ⟨k + 1, hlt, by go_num, B7.setCell (p := ⟨g, 3, none⟩) (by dsimp only; omega) _, B37.setCell (p := ⟨g, 3, none⟩) g1 _, HO8.out _, HW8.out _, Lib.hid (HP8.out _)⟩
                      case measure => simp [intOf]; omega
                    · have B3r := B36.trans hBr3
                      have swr := sw3.below B3r
                      clear HPr hOr hWr sw3
                      have HEQ : Hid (∀ k (hk : k < es.length) (hk' : k < os.length), os[k].s = es[k].s) := Lib.hid (fun k hk hk' => by
                        have := congrArg (fun l => l[k]?) HOS2.out
                        simpa [hk, hk'] using this)
                      go_wp2_with fail
                      clear HV HFAR HAP HLT HRM HM
                      go_loopw [16] (fun i wq => ∃ k : Nat, k ≤ es.length ∧ i = .int .i64 k ∧ Below w.heap.size w wq ∧ Below wr.heap.size wr wq) (fun i _ => es.length - (intOf i).toNat)
                      case atStart => exact ⟨0, Nat.zero_le _, rfl, hBr, Below.refl _ _⟩
                      case round =>
                        obtain ⟨m, hm, rfl, hBq, hBrq⟩ := hrel
                        have swq := swr.below hBrq
                        by_cases hme : m < es.length
                        · have hme' : m < os.length := by omega
                          have hse := HEQ.out m hme hme'
                          obtain ⟨oa, eoa, hob, a0, a1, a2, a3, a4, a5, a6, a7⟩ := swq.l.st8 hme
                          first | subst eoa | obtain rfl := Option.some.inj eoa
                          obtain ⟨wa, ewa, hwb, b0, b1, b2, b3, b4, b5, b6, b7⟩ := swq.wl.st8 hme'
                          subst ewa
                          have sO := swq.p.at_ hme
                          have sW := swq.wp.at_ hme'
                          have hpk := hpat _ (List.getElem_mem hme)
                          rw [hse] at b0 b1 b2 b3 b4 b5 b6 b7 sW
                          have kF : Hid (∀ w1, Sl 1 icell w1 w1.heap.size es[m].A es[m].s.pat → Sl 1 icell w1 w1.heap.size os[m].A es[m].s.pat → Calls Tryd.prog 19 #[stv es[m].s es[m].A es[m].c, stv es[m].s os[m].A os[m].c] w1 fun e w' => e = .returned (.bool true) ∧ Below w1.heap.size w1 w') := Lib.hid (fun w1 h1 h2 => keq es[m].s es[m].A os[m].A es[m].c os[m].c w1 h1 h2 hpk)
                          clear hse
                          go_wp2_with fail
                          refine wp_region_kept wr.heap.size wr (by kernel_rfl) (by kernel_rfl) (Below.refl _ _) ?_
                          repeat (go_big_quiet_step ((go_at_call 19; with_reducible exact Kept.calls (Nat.le_refl _) (kF.out _ sO.kept sW.kept))))
                          refine wpQuiet_nil ?_
                          rintro w8 ⟨⟨_, hb8⟩, rfl⟩
                          go_wp2_with fail
                          go_roundw
                          case rel => exact ⟨m + 1, hme, by go_num, after_ hBq hb8, after_ hBrq hb8⟩
                          case measure => simp [intOf]; omega
                        · go_wp2_with fail
                          refine (known_any _ swq.tab).mono ?_
                          rintro e w8 ⟨rfl, hb8⟩
                          go_wp2_with fail
                          go_ret
                          exact ⟨rfl, after_ hBq hb8⟩
            by_cases g2 : 511 < id
            · obtain ⟨rfl, rfl⟩ : fs = zst ∧ fe = 2 := by
                have := HFD.out
                unfold M.find at this
                rw [if_pos (.inr g2)] at this
                simp only [Prod.mk.injEq] at this
                exact ⟨this.1.symm, this.2.symm⟩
              have q1 : decide (id < 0) = false := decide_eq_false g1
              have q2 : decide (511 < id) = true := decide_eq_true g2
              clear hcase
              go_wp2_with fail
              refine (kE.out X hF).mono ?_
              rintro e w3 ⟨rfl, hb3⟩
              clear f1 f2 f3 f4 f5 f6 f7 f8
              go_wp2_with fail
              have B3 := after_ BX hb3
              have sw3 := sw.below hb3
              refine (sort_any _ lc es w3 sw3.l sw3.p (by omega) hpat).mono ?_
              rintro e w4 ⟨OA, oc, out, rfl, hos, hO, hb4⟩
              have B4 := after_ B3 hb4
              replace sw := sw3.below hb4
              obtain ⟨rl, er, HR⟩ : ∃ rl er, Hid (M.sortR (es.map (·.s)) = (rl, er)) := ⟨_, _, Lib.hid rfl⟩
              rw [HR.out] at hos ⊢
              simp only at hos ⊢
              have h := HR.out
              unfold M.sortR at h
              rw [← HB2.out] at h
              clear HFD f0 lF kE hF
              cases b
              · rw [if_neg (by decide)] at h
                simp only [Prod.mk.injEq] at h
                obtain ⟨rfl, rfl⟩ := h
                obtain rfl : out = [] := by simpa using hos
                rw [List.length_nil]
                go_wp2_with fail
                refine (known_any w4 sw.tab).mono ?_
                rintro e w5 ⟨rfl, hb5⟩
                go_wp2_with fail
                go_ret
                exact ⟨rfl, after_ B4 hb5⟩
              · rw [if_pos rfl] at h
                have HH := Lib.hid h
                clear h
                go_wp2_with fail
                refine (rTwice_any _ lc es w4 sw.l (by omega)).mono ?_
                rintro e w5 ⟨rfl, hb5⟩
                have B5 := after_ B4 hb5
                replace sw := sw.below hb5
                cases htw : M.twice (es.map (·.s)) with
                | true =>
                  have h := HH.out
                  rw [htw, if_pos rfl] at h
                  simp only [Prod.mk.injEq] at h
                  obtain ⟨rfl, rfl⟩ := h
                  obtain rfl : out = [] := by simpa using hos
                  rw [List.length_nil]
                  go_wp2_with fail
                  refine (known_any w5 sw.tab).mono ?_
                  rintro e w6 ⟨rfl, hb6⟩
                  go_wp2_with fail
                  go_ret
                  exact ⟨rfl, after_ B5 hb6⟩
                | false =>
                  have h := HH.out
                  rw [htw, if_neg (by decide)] at h
                  simp only [Prod.mk.injEq] at h
                  obtain ⟨rfl, rfl⟩ := h
                  go_wp2_with fail
                  refine (rSort_ok _ lc es w5 sw.l (by omega)).mono ?_
                  rintro e w6 ⟨WB, wb, rfl, hWO, hb6⟩
                  have B6 := after_ B5 hb6
                  have hout : out.length ≤ 512 := by
                    have h1 := congrArg List.length hos
                    have h2 := M.sortTo_length_le (es.map (·.s)) 512
                    unfold M.sortS at h1
                    rw [List.length_map] at h1
                    omega
                  have HM : Hid (out.map (·.s) = (M.rsortTo es 512).map (·.s)) := Lib.hid (by rw [hos, M.rsort_map htw]; rfl)
                  have HRM : Hid (∀ e ∈ M.rsortTo es 512, e ∈ es) := Lib.hid (fun e he => M.rsort_mem he)
                  generalize M.rsortTo es 512 = rs at *
                  have hrl : rs.length = out.length := by have := congrArg List.length HM.out; simpa using this.symm
                  have HV : Hid (∀ k (hk : k < out.length) (hk' : k < rs.length), out[k].s = rs[k].s ∧ M.svalid out[k].s = true) := Lib.hid (fun k hk hk' => by
                    have h1 : out[k].s = rs[k].s := by
                      have := congrArg (fun l => l[k]?) HM.out
                      simpa [hk, hk'] using this
                    refine ⟨h1, ?_⟩
                    rw [h1]
                    have := HB2.out
                    rw [eq_comm, List.all_eq_true] at this
                    exact this _ (List.mem_map.2 ⟨_, HRM.out _ (List.getElem_mem hk'), rfl⟩))
                  have hO6 := (hO.below hb5).below hb6
                  have HFAR : Hid (∀ k (hk : k < out.length), out[k].blk = none ∨ out[k].blk ≠ (Value.slice OA out.length oc).ownBlock) := Lib.hid (fun k hk => hO.far _ (List.getElem_mem hk))
                  have HAP : Hid (∀ k j (hk : k < out.length) (hj : j < out.length), k < j → out[k].blk = none ∨ out[k].blk ≠ out[j].blk) := Lib.hid (fun k j hk hj hkj => List.pairwise_iff_getElem.1 hO.apart k j hk hj hkj)
                  have HLT : Hid (∀ k (hk : k < out.length) g, out[k].blk = some g → w3.heap.size ≤ g ∧ g < w5.heap.size) := Lib.hid (fun k hk g hg => by
                    have := World.ownsRow.lt (hO.pat _ (List.getElem_mem hk)) g hg
                    have := hb5.size
                    omega)
                  have B36 := after_ (after_ hb4 hb5) hb6
                  have hw5 : w3.heap.size ≤ w5.heap.size := Nat.le_trans hb4.size hb5.size
                  have HOWN := Lib.hid hO6.own
                  have HPAT : Hid (∀ j (hj : j < out.length), OwnP w6 w3.heap.size out[j]) := Lib.hid (fun j hj => hO6.pat _ (List.getElem_mem hj))
                  have hww3 : w.heap.size ≤ w3.heap.size := B3.size
                  rw [hrl] at hWO ⊢
                  have q5 : ((out.length : Int) != (out.length : Int)) = false := by simp
                  clear hO hO6 hos HR HH htw hb4 hb5 sw
                  go_wp2_with fail
                  clear q5
                  go_loopw [15] (fun i wr => ∃ k : Nat, k ≤ out.length ∧ i = .int .i64 k ∧ Below w.heap.size w wr ∧ Below w3.heap.size w6 wr ∧ wr.ownsRow w3.heap.size 28 8 (.slice OA out.length oc) out.length (flat 8 secell out) ∧ wr.ownsRow w5.heap.size 28 8 (.slice WB out.length wb) out.length (flat 8 secell rs) ∧ Hid (∀ j (hj : j < out.length), k ≤ j → OwnP wr w3.heap.size out[j])) (fun i _ => out.length - (intOf i).toNat)
                  case atStart => exact ⟨0, Nat.zero_le _, rfl, B6, Below.refl _ _, HOWN.out, hWO, Lib.hid (fun j hj _ => HPAT.out j hj)⟩
                  case round =>
                    clear hWO HOWN HPAT
                    obtain ⟨k, hk, rfl, hBr, hBr3, hOr, hWr, HPr⟩ := hrel
                    by_cases hlt : k < out.length
                    · have hlt' : k < rs.length := by omega
                      obtain ⟨hse, hsv⟩ := HV.out k hlt hlt'
                      have oL := Sl.of_own (by decide) hOr
                      have wL := Sl.of_own (by decide) hWr
                      obtain ⟨oa, rfl, hob, a0, a1, a2, a3, a4, a5, a6, a7⟩ := oL.st8 hlt
                      obtain ⟨wa, rfl, hwb, b0, b1, b2, b3, b4, b5, b6, b7⟩ := wL.st8 hlt'
                      have pO := HPr.out k hlt (Nat.le_refl _)
                      have sO := Sl.of_own (by decide) pO
                      have sW := (hP.below hBr) _ (HRM.out _ (List.getElem_mem hlt'))
                      rw [← hse] at b0 b1 b2 b3 b4 b5 b6 b7 sW
                      obtain ⟨hp16, hp80⟩ := (M.avalid_iff.1 (M.svalid_iff.1 hsv).2.2.2.2.2.2).2
                      have kF : Hid (∀ w1, Sl 1 icell w1 w1.heap.size out[k].A out[k].s.pat → Sl 1 icell w1 w1.heap.size rs[k].A out[k].s.pat → Calls Tryd.prog 19 #[stv out[k].s out[k].A out[k].c, stv out[k].s rs[k].A rs[k].c] w1 fun e w' => e = .returned (.bool true) ∧ Below w1.heap.size w1 w') := Lib.hid (fun w1 h1 h2 => keq out[k].s out[k].A rs[k].A out[k].c rs[k].c w1 h1 h2 (by omega))
                      have hp3 : 3 < out[k].s.pat.length := by omega
                      have hpv := hp80 out[k].s.pat[3] (List.getElem_mem hp3)
                      have HPO := Lib.hid pO
                      have HP16 := Lib.hid hp16
                      clear pO hse hsv hp80 hp16
                      go_wp2_with fail
                      refine wp_region_kept wr.heap.size wr (by kernel_rfl) (by kernel_rfl) (Below.refl _ _) ?_
                      repeat (go_big_quiet_step ((go_at_call 19; with_reducible exact Kept.calls (Nat.le_refl _) (kF.out _ sO.kept sW.kept))))
                      refine wpQuiet_nil ?_
                      rintro w7 ⟨⟨_, hb7⟩, rfl⟩
                      clear a0 a1 a2 a3 a4 a5 a6 a7 b0 b1 b2 b3 b4 b5 b6 b7 kF sO sW oL wL
                      have B7 := after_ hBr hb7
                      have hO7 := own_below hOr hb7
                      have hW7 := own_below hWr hb7
                      have p7 : OwnP w7 w3.heap.size out[k] := own_below HPO.out hb7
                      have HP7 : Hid (∀ j (hj : j < out.length), k ≤ j → OwnP w7 w3.heap.size out[j]) := Lib.hid (fun j hj h => own_below (HPr.out j hj h) hb7)
                      have B37 := hBr3.trans (hb7.mono (Nat.le_trans B36.size hBr3.size))
                      obtain ⟨oa', eoa, hob', -, -, -, -, -, a5, -, -⟩ := (Sl.of_own (by decide) hO7).st8 hlt
                      obtain rfl := Option.some.inj eoa
                      clear eoa
                      unfold OwnP at p7
                      obtain ⟨g, hgA⟩ := own_ptr2 p7 (by omega)
                      have hgb : out[k].blk = some g := by unfold SE.blk; rw [hgA]; rfl
                      obtain ⟨g1, g2⟩ := HLT.out k hlt g hgb
                      rw [hgA] at p7 a5
                      obtain ⟨m1, m2⟩ := own_at p7 hp3 (j := 0) (by decide)
                      have HG : Hid (∀ z, w7.grownBy (w7.setCell ⟨g, 3, none⟩ z) (some g)) := Lib.hid (fun z => (p7.stored 3 z).2)
                      have HO8 : Hid (∀ z, (w7.setCell ⟨g, 3, none⟩ z).ownsRow w3.heap.size 28 8 (.slice (some oa) out.length oc) out.length (flat 8 secell out)) := Lib.hid (fun z => hO7.kept (HG.out z) (.inr (fun e => by
                        rcases HFAR.out k hlt with h | h
                        · rw [hgb] at h; cases h
                        · exact h (by rw [hgb, e]))))
                      have HW8 : Hid (∀ z, (w7.setCell ⟨g, 3, none⟩ z).ownsRow w5.heap.size 28 8 (.slice (some wa) out.length wb) out.length (flat 8 secell rs)) := Lib.hid (fun z => hW7.kept (HG.out z) (.inr (fun e => by
                        have := (hW7.lt g e).1
                        omega)))
                      have HP8 : Hid (∀ z, ∀ j (hj : j < out.length), k + 1 ≤ j → OwnP (w7.setCell ⟨g, 3, none⟩ z) w3.heap.size out[j]) := Lib.hid (fun z j hj h => World.ownsRow.kept (HP7.out j hj (by omega)) (HG.out z) (by
                        rcases HAP.out k j hlt hj (by omega) with h | h
                        · rw [hgb] at h; cases h
                        · right
                          intro e
                          exact h (by rw [hgb]; exact e.symm)))
                      simp only [Nat.mul_one, Nat.add_zero, icell] at m1 m2
                      generalize out[k].s.pat[3] = pk at *
                      clear hO7 hW7 HP7 p7 HPO hOr hWr HPr
                      rw [HP16.out] at a5
                      clear hp3 HP16
                      go_wp2_with fail
                      go_roundw
                      case rel => exact ⟨k + 1, hlt, by go_num, B7.setCell (p := ⟨g, 3, none⟩) (by dsimp only; omega) _, B37.setCell (p := ⟨g, 3, none⟩) g1 _, HO8.out _, HW8.out _, Lib.hid (HP8.out _)⟩
                      case measure => simp [intOf]; omega
                    · have B3r := B36.trans hBr3
                      have swr := sw3.below B3r
                      clear HPr hOr hWr sw3
                      have HEQ : Hid (∀ k (hk : k < es.length) (hk' : k < os.length), os[k].s = es[k].s) := Lib.hid (fun k hk hk' => by
                        have := congrArg (fun l => l[k]?) HOS2.out
                        simpa [hk, hk'] using this)
                      go_wp2_with fail
                      clear HV HFAR HAP HLT HRM HM
                      go_loopw [16] (fun i wq => ∃ k : Nat, k ≤ es.length ∧ i = .int .i64 k ∧ Below w.heap.size w wq ∧ Below wr.heap.size wr wq) (fun i _ => es.length - (intOf i).toNat)
                      case atStart => exact ⟨0, Nat.zero_le _, rfl, hBr, Below.refl _ _⟩
                      case round =>
                        obtain ⟨m, hm, rfl, hBq, hBrq⟩ := hrel
                        have swq := swr.below hBrq
                        by_cases hme : m < es.length
                        · have hme' : m < os.length := by omega
                          have hse := HEQ.out m hme hme'
                          obtain ⟨oa, eoa, hob, a0, a1, a2, a3, a4, a5, a6, a7⟩ := swq.l.st8 hme
                          first | subst eoa | obtain rfl := Option.some.inj eoa
                          obtain ⟨wa, ewa, hwb, b0, b1, b2, b3, b4, b5, b6, b7⟩ := swq.wl.st8 hme'
                          subst ewa
                          have sO := swq.p.at_ hme
                          have sW := swq.wp.at_ hme'
                          have hpk := hpat _ (List.getElem_mem hme)
                          rw [hse] at b0 b1 b2 b3 b4 b5 b6 b7 sW
                          have kF : Hid (∀ w1, Sl 1 icell w1 w1.heap.size es[m].A es[m].s.pat → Sl 1 icell w1 w1.heap.size os[m].A es[m].s.pat → Calls Tryd.prog 19 #[stv es[m].s es[m].A es[m].c, stv es[m].s os[m].A os[m].c] w1 fun e w' => e = .returned (.bool true) ∧ Below w1.heap.size w1 w') := Lib.hid (fun w1 h1 h2 => keq es[m].s es[m].A os[m].A es[m].c os[m].c w1 h1 h2 hpk)
                          clear hse
                          go_wp2_with fail
                          refine wp_region_kept wr.heap.size wr (by kernel_rfl) (by kernel_rfl) (Below.refl _ _) ?_
                          repeat (go_big_quiet_step ((go_at_call 19; with_reducible exact Kept.calls (Nat.le_refl _) (kF.out _ sO.kept sW.kept))))
                          refine wpQuiet_nil ?_
                          rintro w8 ⟨⟨_, hb8⟩, rfl⟩
                          go_wp2_with fail
                          go_roundw
                          case rel => exact ⟨m + 1, hme, by go_num, after_ hBq hb8, after_ hBrq hb8⟩
                          case measure => simp [intOf]; omega
                        · go_wp2_with fail
                          refine (known_any _ swq.tab).mono ?_
                          rintro e w8 ⟨rfl, hb8⟩
                          go_wp2_with fail
                          go_ret
                          exact ⟨rfl, after_ hBq hb8⟩
            have q1 : decide (id < 0) = false := decide_eq_false g1
            have q2 : decide (511 < id) = false := decide_eq_false g2
            have HFR : Hid ((match (es.map (·.s)).find? (fun s => decide (s.id = id)) with | some s => (s, (0 : Int)) | none => (zst, 9)) = (fs, fe)) := Lib.hid (by
              have := HFD.out
              unfold M.find at this
              rw [if_neg (by omega)] at this
              exact this)
            rcases hcase with ⟨rfl, H⟩ | ⟨j, hj, -, rfl, H1, H2⟩
            · obtain ⟨rfl, rfl⟩ : fs = zst ∧ fe = 9 := by
                have := HFR.out
                rw [M.find_none (fun j hj => by simpa using H.out j (by simpa using hj) (Nat.zero_le _))] at this
                simp only [Prod.mk.injEq] at this
                exact ⟨this.1.symm, this.2.symm⟩
              go_wp2_with fail
              refine (kE.out X hF).mono ?_
              rintro e w3 ⟨rfl, hb3⟩
              clear f1 f2 f3 f4 f5 f6 f7 f8
              go_wp2_with fail
              have B3 := after_ BX hb3
              have sw3 := sw.below hb3
              refine (sort_any _ lc es w3 sw3.l sw3.p (by omega) hpat).mono ?_
              rintro e w4 ⟨OA, oc, out, rfl, hos, hO, hb4⟩
              have B4 := after_ B3 hb4
              replace sw := sw3.below hb4
              obtain ⟨rl, er, HR⟩ : ∃ rl er, Hid (M.sortR (es.map (·.s)) = (rl, er)) := ⟨_, _, Lib.hid rfl⟩
              rw [HR.out] at hos ⊢
              simp only at hos ⊢
              have h := HR.out
              unfold M.sortR at h
              rw [← HB2.out] at h
              clear HFD f0 lF kE hF
              cases b
              · rw [if_neg (by decide)] at h
                simp only [Prod.mk.injEq] at h
                obtain ⟨rfl, rfl⟩ := h
                obtain rfl : out = [] := by simpa using hos
                rw [List.length_nil]
                go_wp2_with fail
                refine (known_any w4 sw.tab).mono ?_
                rintro e w5 ⟨rfl, hb5⟩
                go_wp2_with fail
                go_ret
                exact ⟨rfl, after_ B4 hb5⟩
              · rw [if_pos rfl] at h
                have HH := Lib.hid h
                clear h
                go_wp2_with fail
                refine (rTwice_any _ lc es w4 sw.l (by omega)).mono ?_
                rintro e w5 ⟨rfl, hb5⟩
                have B5 := after_ B4 hb5
                replace sw := sw.below hb5
                cases htw : M.twice (es.map (·.s)) with
                | true =>
                  have h := HH.out
                  rw [htw, if_pos rfl] at h
                  simp only [Prod.mk.injEq] at h
                  obtain ⟨rfl, rfl⟩ := h
                  obtain rfl : out = [] := by simpa using hos
                  rw [List.length_nil]
                  go_wp2_with fail
                  refine (known_any w5 sw.tab).mono ?_
                  rintro e w6 ⟨rfl, hb6⟩
                  go_wp2_with fail
                  go_ret
                  exact ⟨rfl, after_ B5 hb6⟩
                | false =>
                  have h := HH.out
                  rw [htw, if_neg (by decide)] at h
                  simp only [Prod.mk.injEq] at h
                  obtain ⟨rfl, rfl⟩ := h
                  go_wp2_with fail
                  refine (rSort_ok _ lc es w5 sw.l (by omega)).mono ?_
                  rintro e w6 ⟨WB, wb, rfl, hWO, hb6⟩
                  have B6 := after_ B5 hb6
                  have hout : out.length ≤ 512 := by
                    have h1 := congrArg List.length hos
                    have h2 := M.sortTo_length_le (es.map (·.s)) 512
                    unfold M.sortS at h1
                    rw [List.length_map] at h1
                    omega
                  have HM : Hid (out.map (·.s) = (M.rsortTo es 512).map (·.s)) := Lib.hid (by rw [hos, M.rsort_map htw]; rfl)
                  have HRM : Hid (∀ e ∈ M.rsortTo es 512, e ∈ es) := Lib.hid (fun e he => M.rsort_mem he)
                  generalize M.rsortTo es 512 = rs at *
                  have hrl : rs.length = out.length := by have := congrArg List.length HM.out; simpa using this.symm
                  have HV : Hid (∀ k (hk : k < out.length) (hk' : k < rs.length), out[k].s = rs[k].s ∧ M.svalid out[k].s = true) := Lib.hid (fun k hk hk' => by
                    have h1 : out[k].s = rs[k].s := by
                      have := congrArg (fun l => l[k]?) HM.out
                      simpa [hk, hk'] using this
                    refine ⟨h1, ?_⟩
                    rw [h1]
                    have := HB2.out
                    rw [eq_comm, List.all_eq_true] at this
                    exact this _ (List.mem_map.2 ⟨_, HRM.out _ (List.getElem_mem hk'), rfl⟩))
                  have hO6 := (hO.below hb5).below hb6
                  have HFAR : Hid (∀ k (hk : k < out.length), out[k].blk = none ∨ out[k].blk ≠ (Value.slice OA out.length oc).ownBlock) := Lib.hid (fun k hk => hO.far _ (List.getElem_mem hk))
                  have HAP : Hid (∀ k j (hk : k < out.length) (hj : j < out.length), k < j → out[k].blk = none ∨ out[k].blk ≠ out[j].blk) := Lib.hid (fun k j hk hj hkj => List.pairwise_iff_getElem.1 hO.apart k j hk hj hkj)
                  have HLT : Hid (∀ k (hk : k < out.length) g, out[k].blk = some g → w3.heap.size ≤ g ∧ g < w5.heap.size) := Lib.hid (fun k hk g hg => by
                    have := World.ownsRow.lt (hO.pat _ (List.getElem_mem hk)) g hg
                    have := hb5.size
                    omega)
                  have B36 := after_ (after_ hb4 hb5) hb6
                  have hw5 : w3.heap.size ≤ w5.heap.size := Nat.le_trans hb4.size hb5.size
                  have HOWN := Lib.hid hO6.own
                  have HPAT : Hid (∀ j (hj : j < out.length), OwnP w6 w3.heap.size out[j]) := Lib.hid (fun j hj => hO6.pat _ (List.getElem_mem hj))
                  have hww3 : w.heap.size ≤ w3.heap.size := B3.size
                  rw [hrl] at hWO ⊢
                  have q5 : ((out.length : Int) != (out.length : Int)) = false := by simp
                  clear hO hO6 hos HR HH htw hb4 hb5 sw
                  go_wp2_with fail
                  clear q5
                  go_loopw [15] (fun i wr => ∃ k : Nat, k ≤ out.length ∧ i = .int .i64 k ∧ Below w.heap.size w wr ∧ Below w3.heap.size w6 wr ∧ wr.ownsRow w3.heap.size 28 8 (.slice OA out.length oc) out.length (flat 8 secell out) ∧ wr.ownsRow w5.heap.size 28 8 (.slice WB out.length wb) out.length (flat 8 secell rs) ∧ Hid (∀ j (hj : j < out.length), k ≤ j → OwnP wr w3.heap.size out[j])) (fun i _ => out.length - (intOf i).toNat)
                  case atStart => exact ⟨0, Nat.zero_le _, rfl, B6, Below.refl _ _, HOWN.out, hWO, Lib.hid (fun j hj _ => HPAT.out j hj)⟩
                  case round =>
                    clear hWO HOWN HPAT
                    obtain ⟨k, hk, rfl, hBr, hBr3, hOr, hWr, HPr⟩ := hrel
                    by_cases hlt : k < out.length
                    · have hlt' : k < rs.length := by omega
                      obtain ⟨hse, hsv⟩ := HV.out k hlt hlt'
                      have oL := Sl.of_own (by decide) hOr
                      have wL := Sl.of_own (by decide) hWr
                      obtain ⟨oa, rfl, hob, a0, a1, a2, a3, a4, a5, a6, a7⟩ := oL.st8 hlt
                      obtain ⟨wa, rfl, hwb, b0, b1, b2, b3, b4, b5, b6, b7⟩ := wL.st8 hlt'
                      have pO := HPr.out k hlt (Nat.le_refl _)
                      have sO := Sl.of_own (by decide) pO
                      have sW := (hP.below hBr) _ (HRM.out _ (List.getElem_mem hlt'))
                      rw [← hse] at b0 b1 b2 b3 b4 b5 b6 b7 sW
                      obtain ⟨hp16, hp80⟩ := (M.avalid_iff.1 (M.svalid_iff.1 hsv).2.2.2.2.2.2).2
                      have kF : Hid (∀ w1, Sl 1 icell w1 w1.heap.size out[k].A out[k].s.pat → Sl 1 icell w1 w1.heap.size rs[k].A out[k].s.pat → Calls Tryd.prog 19 #[stv out[k].s out[k].A out[k].c, stv out[k].s rs[k].A rs[k].c] w1 fun e w' => e = .returned (.bool true) ∧ Below w1.heap.size w1 w') := Lib.hid (fun w1 h1 h2 => keq out[k].s out[k].A rs[k].A out[k].c rs[k].c w1 h1 h2 (by omega))
                      have hp3 : 3 < out[k].s.pat.length := by omega
                      have hpv := hp80 out[k].s.pat[3] (List.getElem_mem hp3)
                      have HPO := Lib.hid pO
                      have HP16 := Lib.hid hp16
                      clear pO hse hsv hp80 hp16
                      go_wp2_with fail
                      refine wp_region_kept wr.heap.size wr (by kernel_rfl) (by kernel_rfl) (Below.refl _ _) ?_
                      repeat (go_big_quiet_step ((go_at_call 19; with_reducible exact Kept.calls (Nat.le_refl _) (kF.out _ sO.kept sW.kept))))
                      refine wpQuiet_nil ?_
                      rintro w7 ⟨⟨_, hb7⟩, rfl⟩
                      clear a0 a1 a2 a3 a4 a5 a6 a7 b0 b1 b2 b3 b4 b5 b6 b7 kF sO sW oL wL
                      have B7 := after_ hBr hb7
                      have hO7 := own_below hOr hb7
                      have hW7 := own_below hWr hb7
                      have p7 : OwnP w7 w3.heap.size out[k] := own_below HPO.out hb7
                      have HP7 : Hid (∀ j (hj : j < out.length), k ≤ j → OwnP w7 w3.heap.size out[j]) := Lib.hid (fun j hj h => own_below (HPr.out j hj h) hb7)
                      have B37 := hBr3.trans (hb7.mono (Nat.le_trans B36.size hBr3.size))
                      obtain ⟨oa', eoa, hob', -, -, -, -, -, a5, -, -⟩ := (Sl.of_own (by decide) hO7).st8 hlt
                      obtain rfl := Option.some.inj eoa
                      clear eoa
                      unfold OwnP at p7
                      obtain ⟨g, hgA⟩ := own_ptr2 p7 (by omega)
                      have hgb : out[k].blk = some g := by unfold SE.blk; rw [hgA]; rfl
                      obtain ⟨g1, g2⟩ := HLT.out k hlt g hgb
                      rw [hgA] at p7 a5
                      obtain ⟨m1, m2⟩ := own_at p7 hp3 (j := 0) (by decide)
                      have HG : Hid (∀ z, w7.grownBy (w7.setCell ⟨g, 3, none⟩ z) (some g)) := Lib.hid (fun z => (p7.stored 3 z).2)
                      have HO8 : Hid (∀ z, (w7.setCell ⟨g, 3, none⟩ z).ownsRow w3.heap.size 28 8 (.slice (some oa) out.length oc) out.length (flat 8 secell out)) := Lib.hid (fun z => hO7.kept (HG.out z) (.inr (fun e => by
                        rcases HFAR.out k hlt with h | h
                        · rw [hgb] at h; cases h
                        · exact h (by rw [hgb, e]))))
                      have HW8 : Hid (∀ z, (w7.setCell ⟨g, 3, none⟩ z).ownsRow w5.heap.size 28 8 (.slice (some wa) out.length wb) out.length (flat 8 secell rs)) := Lib.hid (fun z => hW7.kept (HG.out z) (.inr (fun e => by
                        have := (hW7.lt g e).1
                        omega)))
                      have HP8 : Hid (∀ z, ∀ j (hj : j < out.length), k + 1 ≤ j → OwnP (w7.setCell ⟨g, 3, none⟩ z) w3.heap.size out[j]) := Lib.hid (fun z j hj h => World.ownsRow.kept (HP7.out j hj (by omega)) (HG.out z) (by
                        rcases HAP.out k j hlt hj (by omega) with h | h
                        · rw [hgb] at h; cases h
                        · right
                          intro e
                          exact h (by rw [hgb]; exact e.symm)))
                      simp only [Nat.mul_one, Nat.add_zero, icell] at m1 m2
                      generalize out[k].s.pat[3] = pk at *
                      clear hO7 hW7 HP7 p7 HPO hOr hWr HPr
                      rw [HP16.out] at a5
                      clear hp3 HP16
                      go_wp2_with fail
                      go_roundw
                      case rel => exact ⟨k + 1, hlt, by go_num, B7.setCell (p := ⟨g, 3, none⟩) (by dsimp only; omega) _, B37.setCell (p := ⟨g, 3, none⟩) g1 _, HO8.out _, HW8.out _, Lib.hid (HP8.out _)⟩
                      case measure => simp [intOf]; omega
                    · have B3r := B36.trans hBr3
                      have swr := sw3.below B3r
                      clear HPr hOr hWr sw3
                      have HEQ : Hid (∀ k (hk : k < es.length) (hk' : k < os.length), os[k].s = es[k].s) := Lib.hid (fun k hk hk' => by
                        have := congrArg (fun l => l[k]?) HOS2.out
                        simpa [hk, hk'] using this)
                      go_wp2_with fail
                      clear HV HFAR HAP HLT HRM HM
                      go_loopw [16] (fun i wq => ∃ k : Nat, k ≤ es.length ∧ i = .int .i64 k ∧ Below w.heap.size w wq ∧ Below wr.heap.size wr wq) (fun i _ => es.length - (intOf i).toNat)
                      case atStart => exact ⟨0, Nat.zero_le _, rfl, hBr, Below.refl _ _⟩
                      case round =>
                        obtain ⟨m, hm, rfl, hBq, hBrq⟩ := hrel
                        have swq := swr.below hBrq
                        by_cases hme : m < es.length
                        · have hme' : m < os.length := by omega
                          have hse := HEQ.out m hme hme'
                          obtain ⟨oa, eoa, hob, a0, a1, a2, a3, a4, a5, a6, a7⟩ := swq.l.st8 hme
                          first | subst eoa | obtain rfl := Option.some.inj eoa
                          obtain ⟨wa, ewa, hwb, b0, b1, b2, b3, b4, b5, b6, b7⟩ := swq.wl.st8 hme'
                          subst ewa
                          have sO := swq.p.at_ hme
                          have sW := swq.wp.at_ hme'
                          have hpk := hpat _ (List.getElem_mem hme)
                          rw [hse] at b0 b1 b2 b3 b4 b5 b6 b7 sW
                          have kF : Hid (∀ w1, Sl 1 icell w1 w1.heap.size es[m].A es[m].s.pat → Sl 1 icell w1 w1.heap.size os[m].A es[m].s.pat → Calls Tryd.prog 19 #[stv es[m].s es[m].A es[m].c, stv es[m].s os[m].A os[m].c] w1 fun e w' => e = .returned (.bool true) ∧ Below w1.heap.size w1 w') := Lib.hid (fun w1 h1 h2 => keq es[m].s es[m].A os[m].A es[m].c os[m].c w1 h1 h2 hpk)
                          clear hse
                          go_wp2_with fail
                          refine wp_region_kept wr.heap.size wr (by kernel_rfl) (by kernel_rfl) (Below.refl _ _) ?_
                          repeat (go_big_quiet_step ((go_at_call 19; with_reducible exact Kept.calls (Nat.le_refl _) (kF.out _ sO.kept sW.kept))))
                          refine wpQuiet_nil ?_
                          rintro w8 ⟨⟨_, hb8⟩, rfl⟩
                          go_wp2_with fail
                          go_roundw
                          case rel => exact ⟨m + 1, hme, by go_num, after_ hBq hb8, after_ hBrq hb8⟩
                          case measure => simp [intOf]; omega
                        · go_wp2_with fail
                          refine (known_any _ swq.tab).mono ?_
                          rintro e w8 ⟨rfl, hb8⟩
                          go_wp2_with fail
                          go_ret
                          exact ⟨rfl, after_ hBq hb8⟩
            · obtain ⟨rfl, rfl⟩ : fs = es[j].s ∧ fe = 0 := by
                have := HFR.out
                rw [M.find_first (j := j) (by simpa using hj) (by simpa using H1.out) (fun i hi hij => by simpa using H2.out i (by simpa using hi) (Nat.zero_le _) hij)] at this
                simp only [List.getElem_map, Prod.mk.injEq] at this
                exact ⟨this.1.symm, this.2.symm⟩
              obtain ⟨la, rfl, hlb, a0, a1, a2, a3, a4, a5, a6, a7⟩ := sw.l.st8 hj
              have hS := sw.p.at_ hj
              have hpk := hpat _ (List.getElem_mem hj)
              have kF : Hid (∀ w1, Sl 1 icell w1 w1.heap.size FA es[j].s.pat → Sl 1 icell w1 w1.heap.size es[j].A es[j].s.pat → Calls Tryd.prog 19 #[stv es[j].s FA fc, stv es[j].s es[j].A es[j].c] w1 fun e w' => e = .returned (.bool true) ∧ Below w1.heap.size w1 w') := Lib.hid (fun w1 h1 h2 => keq es[j].s FA es[j].A fc es[j].c w1 h1 h2 hpk)
              have q3 : decide ((j : Int) < 0) = false := decide_eq_false (by omega)
              go_wp2_with fail
              refine wp_region_kept X.heap.size X (by kernel_rfl) (by kernel_rfl) (Below.refl _ _) ?_
              repeat (go_big_quiet_step ((go_at_call 19; exact Kept.calls (Nat.le_refl _) (kF.out _ hF.kept hS.kept))))
              refine wpQuiet_nil ?_
              rintro w3 ⟨⟨_, hb3⟩, rfl⟩
              clear f1 f2 f3 f4 f5 f6 f7 f8 a0 a1 a2 a3 a4 a5 a6 a7 hlb
              go_wp2_with fail
              have B3 := after_ BX hb3
              have sw3 := sw.below hb3
              refine (sort_any _ lc es w3 sw3.l sw3.p (by omega) hpat).mono ?_
              rintro e w4 ⟨OA, oc, out, rfl, hos, hO, hb4⟩
              have B4 := after_ B3 hb4
              replace sw := sw3.below hb4
              obtain ⟨rl, er, HR⟩ : ∃ rl er, Hid (M.sortR (es.map (·.s)) = (rl, er)) := ⟨_, _, Lib.hid rfl⟩
              rw [HR.out] at hos ⊢
              simp only at hos ⊢
              have h := HR.out
              unfold M.sortR at h
              rw [← HB2.out] at h
              clear HFD f0 lF kE hF
              cases b
              · rw [if_neg (by decide)] at h
                simp only [Prod.mk.injEq] at h
                obtain ⟨rfl, rfl⟩ := h
                obtain rfl : out = [] := by simpa using hos
                rw [List.length_nil]
                go_wp2_with fail
                refine (known_any w4 sw.tab).mono ?_
                rintro e w5 ⟨rfl, hb5⟩
                go_wp2_with fail
                go_ret
                exact ⟨rfl, after_ B4 hb5⟩
              · rw [if_pos rfl] at h
                have HH := Lib.hid h
                clear h
                go_wp2_with fail
                refine (rTwice_any _ lc es w4 sw.l (by omega)).mono ?_
                rintro e w5 ⟨rfl, hb5⟩
                have B5 := after_ B4 hb5
                replace sw := sw.below hb5
                cases htw : M.twice (es.map (·.s)) with
                | true =>
                  have h := HH.out
                  rw [htw, if_pos rfl] at h
                  simp only [Prod.mk.injEq] at h
                  obtain ⟨rfl, rfl⟩ := h
                  obtain rfl : out = [] := by simpa using hos
                  rw [List.length_nil]
                  go_wp2_with fail
                  refine (known_any w5 sw.tab).mono ?_
                  rintro e w6 ⟨rfl, hb6⟩
                  go_wp2_with fail
                  go_ret
                  exact ⟨rfl, after_ B5 hb6⟩
                | false =>
                  have h := HH.out
                  rw [htw, if_neg (by decide)] at h
                  simp only [Prod.mk.injEq] at h
                  obtain ⟨rfl, rfl⟩ := h
                  go_wp2_with fail
                  refine (rSort_ok _ lc es w5 sw.l (by omega)).mono ?_
                  rintro e w6 ⟨WB, wb, rfl, hWO, hb6⟩
                  have B6 := after_ B5 hb6
                  have hout : out.length ≤ 512 := by
                    have h1 := congrArg List.length hos
                    have h2 := M.sortTo_length_le (es.map (·.s)) 512
                    unfold M.sortS at h1
                    rw [List.length_map] at h1
                    omega
                  have HM : Hid (out.map (·.s) = (M.rsortTo es 512).map (·.s)) := Lib.hid (by rw [hos, M.rsort_map htw]; rfl)
                  have HRM : Hid (∀ e ∈ M.rsortTo es 512, e ∈ es) := Lib.hid (fun e he => M.rsort_mem he)
                  generalize M.rsortTo es 512 = rs at *
                  have hrl : rs.length = out.length := by have := congrArg List.length HM.out; simpa using this.symm
                  have HV : Hid (∀ k (hk : k < out.length) (hk' : k < rs.length), out[k].s = rs[k].s ∧ M.svalid out[k].s = true) := Lib.hid (fun k hk hk' => by
                    have h1 : out[k].s = rs[k].s := by
                      have := congrArg (fun l => l[k]?) HM.out
                      simpa [hk, hk'] using this
                    refine ⟨h1, ?_⟩
                    rw [h1]
                    have := HB2.out
                    rw [eq_comm, List.all_eq_true] at this
                    exact this _ (List.mem_map.2 ⟨_, HRM.out _ (List.getElem_mem hk'), rfl⟩))
                  have hO6 := (hO.below hb5).below hb6
                  have HFAR : Hid (∀ k (hk : k < out.length), out[k].blk = none ∨ out[k].blk ≠ (Value.slice OA out.length oc).ownBlock) := Lib.hid (fun k hk => hO.far _ (List.getElem_mem hk))
                  have HAP : Hid (∀ k j (hk : k < out.length) (hj : j < out.length), k < j → out[k].blk = none ∨ out[k].blk ≠ out[j].blk) := Lib.hid (fun k j hk hj hkj => List.pairwise_iff_getElem.1 hO.apart k j hk hj hkj)
                  have HLT : Hid (∀ k (hk : k < out.length) g, out[k].blk = some g → w3.heap.size ≤ g ∧ g < w5.heap.size) := Lib.hid (fun k hk g hg => by
                    have := World.ownsRow.lt (hO.pat _ (List.getElem_mem hk)) g hg
                    have := hb5.size
                    omega)
                  have B36 := after_ (after_ hb4 hb5) hb6
                  have hw5 : w3.heap.size ≤ w5.heap.size := Nat.le_trans hb4.size hb5.size
                  have HOWN := Lib.hid hO6.own
                  have HPAT : Hid (∀ j (hj : j < out.length), OwnP w6 w3.heap.size out[j]) := Lib.hid (fun j hj => hO6.pat _ (List.getElem_mem hj))
                  have hww3 : w.heap.size ≤ w3.heap.size := B3.size
                  rw [hrl] at hWO ⊢
                  have q5 : ((out.length : Int) != (out.length : Int)) = false := by simp
                  clear hO hO6 hos HR HH htw hb4 hb5 sw
                  go_wp2_with fail
                  clear q5
                  go_loopw [15] (fun i wr => ∃ k : Nat, k ≤ out.length ∧ i = .int .i64 k ∧ Below w.heap.size w wr ∧ Below w3.heap.size w6 wr ∧ wr.ownsRow w3.heap.size 28 8 (.slice OA out.length oc) out.length (flat 8 secell out) ∧ wr.ownsRow w5.heap.size 28 8 (.slice WB out.length wb) out.length (flat 8 secell rs) ∧ Hid (∀ j (hj : j < out.length), k ≤ j → OwnP wr w3.heap.size out[j])) (fun i _ => out.length - (intOf i).toNat)
                  case atStart => exact ⟨0, Nat.zero_le _, rfl, B6, Below.refl _ _, HOWN.out, hWO, Lib.hid (fun j hj _ => HPAT.out j hj)⟩
                  case round =>
                    clear hWO HOWN HPAT
                    obtain ⟨k, hk, rfl, hBr, hBr3, hOr, hWr, HPr⟩ := hrel
                    by_cases hlt : k < out.length
                    · have hlt' : k < rs.length := by omega
                      obtain ⟨hse, hsv⟩ := HV.out k hlt hlt'
                      have oL := Sl.of_own (by decide) hOr
                      have wL := Sl.of_own (by decide) hWr
                      obtain ⟨oa, rfl, hob, a0, a1, a2, a3, a4, a5, a6, a7⟩ := oL.st8 hlt
                      obtain ⟨wa, rfl, hwb, b0, b1, b2, b3, b4, b5, b6, b7⟩ := wL.st8 hlt'
                      have pO := HPr.out k hlt (Nat.le_refl _)
                      have sO := Sl.of_own (by decide) pO
                      have sW := (hP.below hBr) _ (HRM.out _ (List.getElem_mem hlt'))
                      rw [← hse] at b0 b1 b2 b3 b4 b5 b6 b7 sW
                      obtain ⟨hp16, hp80⟩ := (M.avalid_iff.1 (M.svalid_iff.1 hsv).2.2.2.2.2.2).2
                      have kF : Hid (∀ w1, Sl 1 icell w1 w1.heap.size out[k].A out[k].s.pat → Sl 1 icell w1 w1.heap.size rs[k].A out[k].s.pat → Calls Tryd.prog 19 #[stv out[k].s out[k].A out[k].c, stv out[k].s rs[k].A rs[k].c] w1 fun e w' => e = .returned (.bool true) ∧ Below w1.heap.size w1 w') := Lib.hid (fun w1 h1 h2 => keq out[k].s out[k].A rs[k].A out[k].c rs[k].c w1 h1 h2 (by omega))
                      have hp3 : 3 < out[k].s.pat.length := by omega
                      have hpv := hp80 out[k].s.pat[3] (List.getElem_mem hp3)
                      have HPO := Lib.hid pO
                      have HP16 := Lib.hid hp16
                      clear pO hse hsv hp80 hp16
                      go_wp2_with fail
                      refine wp_region_kept wr.heap.size wr (by kernel_rfl) (by kernel_rfl) (Below.refl _ _) ?_
                      repeat (go_big_quiet_step ((go_at_call 19; with_reducible exact Kept.calls (Nat.le_refl _) (kF.out _ sO.kept sW.kept))))
                      refine wpQuiet_nil ?_
                      rintro w7 ⟨⟨_, hb7⟩, rfl⟩
                      clear a0 a1 a2 a3 a4 a5 a6 a7 b0 b1 b2 b3 b4 b5 b6 b7 kF sO sW oL wL
                      have B7 := after_ hBr hb7
                      have hO7 := own_below hOr hb7
                      have hW7 := own_below hWr hb7
                      have p7 : OwnP w7 w3.heap.size out[k] := own_below HPO.out hb7
                      have HP7 : Hid (∀ j (hj : j < out.length), k ≤ j → OwnP w7 w3.heap.size out[j]) := Lib.hid (fun j hj h => own_below (HPr.out j hj h) hb7)
                      have B37 := hBr3.trans (hb7.mono (Nat.le_trans B36.size hBr3.size))
                      obtain ⟨oa', eoa, hob', -, -, -, -, -, a5, -, -⟩ := (Sl.of_own (by decide) hO7).st8 hlt
                      obtain rfl := Option.some.inj eoa
                      clear eoa
                      unfold OwnP at p7
                      obtain ⟨g, hgA⟩ := own_ptr2 p7 (by omega)
                      have hgb : out[k].blk = some g := by unfold SE.blk; rw [hgA]; rfl
                      obtain ⟨g1, g2⟩ := HLT.out k hlt g hgb
                      rw [hgA] at p7 a5
                      obtain ⟨m1, m2⟩ := own_at p7 hp3 (j := 0) (by decide)
                      have HG : Hid (∀ z, w7.grownBy (w7.setCell ⟨g, 3, none⟩ z) (some g)) := Lib.hid (fun z => (p7.stored 3 z).2)
                      have HO8 : Hid (∀ z, (w7.setCell ⟨g, 3, none⟩ z).ownsRow w3.heap.size 28 8 (.slice (some oa) out.length oc) out.length (flat 8 secell out)) := Lib.hid (fun z => hO7.kept (HG.out z) (.inr (fun e => by
                        rcases HFAR.out k hlt with h | h
                        · rw [hgb] at h; cases h
                        · exact h (by rw [hgb, e]))))
                      have HW8 : Hid (∀ z, (w7.setCell ⟨g, 3, none⟩ z).ownsRow w5.heap.size 28 8 (.slice (some wa) out.length wb) out.length (flat 8 secell rs)) := Lib.hid (fun z => hW7.kept (HG.out z) (.inr (fun e => by
                        have := (hW7.lt g e).1
                        omega)))
                      have HP8 : Hid (∀ z, ∀ j (hj : j < out.length), k + 1 ≤ j → OwnP (w7.setCell ⟨g, 3, none⟩ z) w3.heap.size out[j]) := Lib.hid (fun z j hj h => World.ownsRow.kept (HP7.out j hj (by omega)) (HG.out z) (by
                        rcases HAP.out k j hlt hj (by omega) with h | h
                        · rw [hgb] at h; cases h
                        · right
                          intro e
                          exact h (by rw [hgb]; exact e.symm)))
                      simp only [Nat.mul_one, Nat.add_zero, icell] at m1 m2
                      generalize out[k].s.pat[3] = pk at *
                      clear hO7 hW7 HP7 p7 HPO hOr hWr HPr
                      rw [HP16.out] at a5
                      clear hp3 HP16
                      go_wp2_with fail
                      go_roundw
                      case rel => exact ⟨k + 1, hlt, by go_num, B7.setCell (p := ⟨g, 3, none⟩) (by dsimp only; omega) _, B37.setCell (p := ⟨g, 3, none⟩) g1 _, HO8.out _, HW8.out _, Lib.hid (HP8.out _)⟩
                      case measure => simp [intOf]; omega
                    · have B3r := B36.trans hBr3
                      have swr := sw3.below B3r
                      clear HPr hOr hWr sw3
                      have HEQ : Hid (∀ k (hk : k < es.length) (hk' : k < os.length), os[k].s = es[k].s) := Lib.hid (fun k hk hk' => by
                        have := congrArg (fun l => l[k]?) HOS2.out
                        simpa [hk, hk'] using this)
                      go_wp2_with fail
                      clear HV HFAR HAP HLT HRM HM
                      go_loopw [16] (fun i wq => ∃ k : Nat, k ≤ es.length ∧ i = .int .i64 k ∧ Below w.heap.size w wq ∧ Below wr.heap.size wr wq) (fun i _ => es.length - (intOf i).toNat)
                      case atStart => exact ⟨0, Nat.zero_le _, rfl, hBr, Below.refl _ _⟩
                      case round =>
                        obtain ⟨m, hm, rfl, hBq, hBrq⟩ := hrel
                        have swq := swr.below hBrq
                        by_cases hme : m < es.length
                        · have hme' : m < os.length := by omega
                          have hse := HEQ.out m hme hme'
                          obtain ⟨oa, eoa, hob, a0, a1, a2, a3, a4, a5, a6, a7⟩ := swq.l.st8 hme
                          first | subst eoa | obtain rfl := Option.some.inj eoa
                          obtain ⟨wa, ewa, hwb, b0, b1, b2, b3, b4, b5, b6, b7⟩ := swq.wl.st8 hme'
                          subst ewa
                          have sO := swq.p.at_ hme
                          have sW := swq.wp.at_ hme'
                          have hpk := hpat _ (List.getElem_mem hme)
                          rw [hse] at b0 b1 b2 b3 b4 b5 b6 b7 sW
                          have kF : Hid (∀ w1, Sl 1 icell w1 w1.heap.size es[m].A es[m].s.pat → Sl 1 icell w1 w1.heap.size os[m].A es[m].s.pat → Calls Tryd.prog 19 #[stv es[m].s es[m].A es[m].c, stv es[m].s os[m].A os[m].c] w1 fun e w' => e = .returned (.bool true) ∧ Below w1.heap.size w1 w') := Lib.hid (fun w1 h1 h2 => keq es[m].s es[m].A os[m].A es[m].c os[m].c w1 h1 h2 hpk)
                          clear hse
                          go_wp2_with fail
                          refine wp_region_kept wr.heap.size wr (by kernel_rfl) (by kernel_rfl) (Below.refl _ _) ?_
                          repeat (go_big_quiet_step ((go_at_call 19; with_reducible exact Kept.calls (Nat.le_refl _) (kF.out _ sO.kept sW.kept))))
                          refine wpQuiet_nil ?_
                          rintro w8 ⟨⟨_, hb8⟩, rfl⟩
                          go_wp2_with fail
                          go_roundw
                          case rel => exact ⟨m + 1, hme, by go_num, after_ hBq hb8, after_ hBrq hb8⟩
                          case measure => simp [intOf]; omega
                        · go_wp2_with fail
                          refine (known_any _ swq.tab).mono ?_
                          rintro e w8 ⟨rfl, hb8⟩
                          go_wp2_with fail
                          go_ret
                          exact ⟨rfl, after_ hBq hb8⟩
end Go.Proofs.YtfcaikahdcpglaaDoor
