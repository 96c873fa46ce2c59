/- Layer 13: Strongest. -/
import Derived.Test.YtfcaikahdcpglaaDoorStL
namespace Go.Proofs.YtfcaikahdcpglaaDoor
open Go Go.RowKit
set_option maxRecDepth 100000

def M.sstep (W : Int) (G : List Int) (cx cy : Int) (b : Int × Int) (s : St) : Int × Int :=
  if b.1 < 0 ∨ b.2 < M.field W G s cx cy ∨ (M.field W G s cx cy = b.2 ∧ s.id < b.1) then (s.id, M.field W G s cx cy) else b
def M.strong (W : Int) (G : List Int) (cx cy : Int) (l : List St) : Int × Int := l.foldl (M.sstep W G cx cy) (-1, 0)
theorem M.strong_snoc (W : Int) (G : List Int) (cx cy : Int) (l : List St) (s : St) : M.strong W G cx cy (l ++ [s]) = M.sstep W G cx cy (M.strong W G cx cy l) s := by
  unfold M.strong; rw [List.foldl_append]; rfl
def M.strongR (W H : Int) (G P : List Int) (l : List St) (cx cy : Int) : Int × Int × Int :=
  if (M.has W H G P cx cy && l.all fun s => M.okF W H G P s cx cy) = true then (if l = [] then (0, 0, 9) else ((M.strong W G cx cy l).1, (M.strong W G cx cy l).2, 0)) else (0, 0, 2)
theorem M.okF_iff {W H : Int} {G P : List Int} {s : St} {cx cy : Int} (hc : M.has W H G P cx cy = true) : M.okF W H G P s cx cy = true ↔ M.svalid s = true ∧ s.x < W ∧ s.y < H := by
  rw [M.okF_eq, hc, Bool.and_true, Bool.and_eq_true]
  have ht : M.tvalid W H G P = true := by unfold M.has at hc; rw [Bool.and_eq_true] at hc; exact hc.1
  constructor
  · rintro ⟨a, b⟩
    unfold M.has at b
    rw [Bool.and_eq_true] at b
    have := M.inside_iff.1 b.2
    exact ⟨a, this.1.2, this.2.2⟩
  · rintro ⟨a, b, c⟩
    obtain ⟨_, h2, h3, _⟩ := M.svalid_iff.1 a
    refine ⟨a, ?_⟩
    unfold M.has
    rw [ht, Bool.true_and]
    exact M.inside_iff.2 ⟨⟨h2.1, b⟩, h3.1, c⟩
theorem M.field_bd {W H : Int} {G P : List Int} {s : St} {cx cy : Int} (h : M.okF W H G P s cx cy = true) : -1000 ≤ M.field W G s cx cy ∧ M.field W G s cx cy ≤ 300 := by
  unfold M.okF at h
  rw [Bool.and_eq_true] at h
  obtain ⟨-, -, -, h4, -, -, hav⟩ := M.svalid_iff.1 h.1
  have h1 := M.aloss_bd (M.avalid_iff.1 hav).2.2 (cx - s.x) (cy - s.y)
  have h2 := M.tot_bd h.2
  unfold M.field
  omega

theorem ret_tri {r : Int × Int × Int} {a b c : Int} (h : r = (a, b, c)) : Ending.returned (.tuple #[.int .i64 a, .int .i64 b, .int .i64 c]) = .returned (.tuple #[.int .i64 r.1, .int .i64 r.2.1, .int .i64 r.2.2]) := by rw [h]

set_option maxHeartbeats 16000000 in
theorem strongest_any (W H : Int) (GA PA : Option Addr) (gc pc : Nat) (G P : List Int) (LA : Option Addr) (lc : Nat) (es : List SE) (cx cy : Int) (w : World) (ht : Tab w) (hg : Sl 1 icell w w.heap.size GA G) (hp : Sl 1 icell w w.heap.size PA P) (hL : Sl 8 secell w w.heap.size LA es) (hP : Pats w es)
    (hgl : G.length ≤ 9223372036854775806) (hpl' : P.length ≤ 9223372036854775806) (hl : es.length ≤ 9223372036854775806) (hpl : ∀ e ∈ es, e.s.pat.length ≤ 1000) :
    Calls Tryd.prog 13 #[tv W H GA PA G.length gc P.length pc, .slice LA es.length lc, cv cx cy] w fun e w' => e = .returned (.tuple #[.int .i64 (M.strongR W H G P (es.map (·.s)) cx cy).1, .int .i64 (M.strongR W H G P (es.map (·.s)) cx cy).2.1, .int .i64 (M.strongR W H G P (es.map (·.s)) cx cy).2.2]) ∧ Below w.heap.size w w' := by
  obtain ⟨V, HW, x0, x1, hB, -⟩ := boxes2 w #[.int .i64 W, .int .i64 H, .slice GA G.length gc, .slice PA P.length pc] 24 #[.int .i64 cx, .int .i64 cy] 30
  have hg1 := (hg.below hB).more hB.size
  have hp1 := (hp.below hB).more hB.size
  have HNO : Hid ((M.has W H G P cx cy && (es.map (·.s)).all fun s => M.okF W H G P s cx cy) = false → M.strongR W H G P (es.map (·.s)) cx cy = (0, 0, 2)) := Lib.hid (fun h => by unfold M.strongR; rw [h]; rfl)
  have HNK : Hid (∀ k (hk : k < es.length), M.okF W H G P es[k].s cx cy = false → M.strongR W H G P (es.map (·.s)) cx cy = (0, 0, 2)) := Lib.hid (fun k hk h => HNO.out (by
    rw [Bool.and_eq_false_iff]; right
    rw [List.all_eq_false]
    exact ⟨es[k].s, List.mem_map.2 ⟨_, List.getElem_mem hk, rfl⟩, by rw [h]; decide⟩))
  have HYES : Hid (M.has W H G P cx cy = true → (∀ k (hk : k < es.length), M.okF W H G P es[k].s cx cy = true) → M.strongR W H G P (es.map (·.s)) cx cy = (if es.map (·.s) = [] then (0, 0, 9) else ((M.strong W G cx cy (es.map (·.s))).1, (M.strong W G cx cy (es.map (·.s))).2, 0))) := Lib.hid (fun h hk => by
    have h2 : ((es.map (·.s)).all fun s => M.okF W H G P s cx cy) = true := by
      rw [List.all_eq_true]
      intro s hs
      obtain ⟨e, he, rfl⟩ := List.mem_map.1 hs
      obtain ⟨j, hj, rfl⟩ := List.getElem_of_mem he
      exact hk j hj
    unfold M.strongR; rw [h, h2]; rfl)
  go_enter Tryd.func13, Tryd.ntmps13
  go_wp2_with fail
  rw [HW.out]
  refine (has_any W H GA PA gc pc G P cx cy V hg1 hp1 hgl hpl').mono ?_
  rintro e w1 ⟨rfl, hb1⟩
  have B1 := after_ hB hb1
  cases hc : M.has W H G P cx cy with
  | false =>
    have HF := Lib.hid (HNO.out (by rw [hc]; rfl))
    go_wp2_with fail
    go_ret3
    exact ⟨ret_tri HF.out, B1⟩
  | true =>
    have y0 := x0.below hb1
    have y1 := x1.below hb1
    have HC := Lib.hid hc
    have HIF : Hid (∀ s, M.okF W H G P s cx cy = true ↔ M.svalid s = true ∧ s.x < W ∧ s.y < H) := Lib.hid (fun s => M.okF_iff hc)
    clear hc
    go_wp2_with fail
    go_loopw [10, 23] (fun _ i wr => ∃ k : Nat, k ≤ es.length ∧ i = .int .i64 k ∧ Below w1.heap.size w1 wr ∧ Hid (∀ j (hj : j < es.length), j < k → M.okF W H G P es[j].s cx cy = true)) (fun _ i _ => es.length - (intOf i).toNat)
    case atStart => exact ⟨0, Nat.zero_le _, rfl, Below.refl _ _, Lib.hid (fun j _ h => absurd h (by omega))⟩
    case round =>
      obtain ⟨k, hk, rfl, hBr, HN⟩ := hrel
      have hBw := B1.trans (hBr.mono B1.size)
      by_cases hlt : k < es.length
      · obtain ⟨la, rfl, hlb, a0, a1, a2, a3, a4, a5, a6, a7⟩ := (hL.below hBw).st8 hlt
        have hS := (hP.below hBw).at_ hlt
        have hpk := hpl _ (List.getElem_mem hlt)
        have HK1 := Lib.hid (HNK.out k hlt)
        have HN2 : Hid (M.okF W H G P es[k].s cx cy = true → ∀ j (hj : j < es.length), j < k + 1 → M.okF W H G P es[j].s cx cy = true) := Lib.hid (fun h j h1 h3 => by
          by_cases e : j = k
          · subst e; exact h
          · exact HN.out j h1 (by omega))
        have HI := Lib.hid (HIF.out es[k].s)
        generalize es[k] = ek at *
        obtain ⟨s, A, c⟩ := ek
        simp only at a0 a1 a2 a3 a4 a5 a6 a7 hS hpk HK1 HN2 HI
        obtain ⟨U, HU, u0, hBU, -⟩ := boxes1 wr (stc s A c) 28
        obtain ⟨b0, b1, b2, b3, b4, b5, b6, b7⟩ := u0.c8
        have hU := HU.out
        have BU := after_ hBw hBU
        obtain ⟨c0, c1, c2, c3⟩ := ((y0.below hBr).below hBU).c4
        go_wp2_with fail
        clear hU
        refine (sValid_any s A c U ((hS.below hBU).more hBU.size) (by omega)).mono ?_
        rintro e w2 ⟨rfl, hb2⟩
        have B2 := after_ BU hb2
        cases hv : M.svalid s with
        | false =>
          have HF := Lib.hid (HK1.out (by
            cases ho : M.okF W H G P s cx cy with
            | false => rfl
            | true => have := (HI.out.1 ho).1; rw [hv] at this; cases this))
          go_wp2_with fail
          go_ret3
          exact ⟨ret_tri HF.out, B2⟩
        | true =>
          clear c0 c1 c2 c3 b0 b1 b2 b3 b4 b5 b6 b7
          obtain ⟨c0, c1, c2, c3⟩ := (((y0.below hBr).below hBU).below hb2).c4
          obtain ⟨b0, b1, b2, b3, b4, b5, b6, b7⟩ := (u0.below hb2).c8
          by_cases e1 : W ≤ s.x
          · have HF := Lib.hid (HK1.out (by
              cases ho : M.okF W H G P s cx cy with
              | false => rfl
              | true => have := (HI.out.1 ho).2.1; omega))
            have q1 : decide (W ≤ s.x) = true := decide_eq_true e1
            go_wp2_with fail
            go_ret3
            exact ⟨ret_tri HF.out, B2⟩
          have q1 : decide (W ≤ s.x) = false := decide_eq_false e1
          by_cases e2 : H ≤ s.y
          · have HF := Lib.hid (HK1.out (by
              cases ho : M.okF W H G P s cx cy with
              | false => rfl
              | true => have := (HI.out.1 ho).2.2; omega))
            have q2 : decide (H ≤ s.y) = true := decide_eq_true e2
            go_wp2_with fail
            go_ret3
            exact ⟨ret_tri HF.out, B2⟩
          have q2 : decide (H ≤ s.y) = false := decide_eq_false e2
          have HN3 := Lib.hid (HN2.out (HI.out.2 ⟨hv, by omega, by omega⟩))
          go_wp2_with fail
          go_roundw
          case rel => exact ⟨k + 1, hlt, by go_num, after_ (after_ hBr hBU) hb2, HN3⟩
          case measure => simp [intOf]; omega
      · have HALL : Hid (∀ j (hj : j < es.length), M.okF W H G P es[j].s cx cy = true) := Lib.hid (fun j hj => HN.out j hj (by omega))
        have HR := Lib.hid (HYES.out HC.out HALL.out)
        clear HN
        by_cases h0 : es.length = 0
        · have q0 : ((es.length : Int) == 0) = true := by simp; exact List.eq_nil_of_length_eq_zero h0
          have HF : Hid (M.strongR W H G P (es.map (·.s)) cx cy = (0, 0, 9)) := Lib.hid (by rw [HR.out, if_pos (by rw [List.eq_nil_of_length_eq_zero h0]; rfl)])
          clear h0
          go_wp2_with fail
          go_ret3
          exact ⟨ret_tri HF.out, hBw⟩
        · have q0 : ((es.length : Int) == 0) = false := by
            rw [beq_eq_false_iff_ne]; omega
          have HF : Hid (M.strongR W H G P (es.map (·.s)) cx cy = ((M.strong W G cx cy (es.map (·.s))).1, (M.strong W G cx cy (es.map (·.s))).2, 0)) := Lib.hid (by rw [HR.out, if_neg (by intro h; exact h0 (by simpa using congrArg List.length h))])
          clear h0 HR
          go_wp2_with fail
          go_loopw [11, 12, 14, 15, 16, 50] (fun a b _ _ _ i wr => ∃ k : Nat, k ≤ es.length ∧ i = .int .i64 k ∧ Below w.heap.size w wr ∧ Below w1.heap.size w1 wr ∧ a = .int .i64 (M.strong W G cx cy ((es.map (·.s)).take k)).1 ∧ b = .int .i64 (M.strong W G cx cy ((es.map (·.s)).take k)).2) (fun _ _ _ _ _ i _ => es.length - (intOf i).toNat)
          case atStart => exact ⟨0, Nat.zero_le _, rfl, hBw, hBr, rfl, rfl⟩
          case round =>
            clear hk hBw hBr hlt
            obtain ⟨k, hk, rfl, hBw, hBr, rfl, rfl⟩ := hrel
            by_cases hlt : k < es.length
            · obtain ⟨la, rfl, hlb, a0, a1, a2, a3, a4, a5, a6, a7⟩ := (hL.below hBw).st8 hlt
              have hS := (hP.below hBw).at_ hlt
              have hpk := hpl _ (List.getElem_mem hlt)
              have hok := HALL.out k hlt
              have HT : Hid ((es.map (·.s)).take (k + 1) = (es.map (·.s)).take k ++ [es[k].s]) := Lib.hid (by rw [List.take_succ_eq_append_getElem (by simpa using hlt)]; simp)
              generalize es[k] = ek at *
              obtain ⟨s, A, c⟩ := ek
              simp only at a0 a1 a2 a3 a4 a5 a6 a7 hS hpk hok HT
              have hfb := M.field_bd hok
              have HSS := Lib.hid (M.strong_snoc W G cx cy ((es.map (·.s)).take k) s)
              rw [← HT.out] at HSS
              obtain ⟨U, HU, u0, hBU, -⟩ := boxes1 wr (stc s A c) 28
              obtain ⟨b0, b1, b2, b3, b4, b5, b6, b7⟩ := u0.c8
              have hU := HU.out
              have BU := after_ hBw hBU
              have HST : Hid (M.sstep W G cx cy (M.strong W G cx cy ((es.map (·.s)).take k)) s = if (M.strong W G cx cy ((es.map (·.s)).take k)).1 < 0 ∨ (M.strong W G cx cy ((es.map (·.s)).take k)).2 < M.field W G s cx cy ∨ (M.field W G s cx cy = (M.strong W G cx cy ((es.map (·.s)).take k)).2 ∧ s.id < (M.strong W G cx cy ((es.map (·.s)).take k)).1) then (s.id, M.field W G s cx cy) else M.strong W G cx cy ((es.map (·.s)).take k)) := Lib.hid rfl
              rw [← HSS.out] at HST
              obtain ⟨p1, p2, hpp⟩ : ∃ p1 p2, M.strong W G cx cy ((es.map (·.s)).take k) = (p1, p2) := ⟨_, _, rfl⟩
              rw [hpp] at HST ⊢
              simp only at HST ⊢
              clear hpp HSS
              obtain ⟨c0, c1, c2, c3⟩ := ((y0.below hBr).below hBU).c4
              obtain ⟨d0, d1⟩ := ((y1.below hBr).below hBU).c2
              go_wp2_with fail
              clear hU
              refine (field_ok W H GA PA gc pc G P s A c cx cy U (ht.kept BU) ((hg.below BU).more BU.size) ((hp.below BU).more BU.size) ((hS.below hBU).more hBU.size) hok).mono ?_
              rintro e w2 ⟨rfl, hb2⟩
              have B2 := after_ BU hb2
              have B3 := after_ (after_ hBr hBU) hb2
              clear c0 c1 c2 c3 b0 b1 b2 b3 b4 b5 b6 b7 d0 d1 a0 a1 a2 a3 a4 a5 a6 a7
              obtain ⟨b0, b1, b2, b3, b4, b5, b6, b7⟩ := (u0.below hb2).c8
              generalize M.field W G s cx cy = fd at *
              by_cases g1 : p1 < 0
              · have HX : Hid (M.strong W G cx cy ((es.map (·.s)).take (k + 1)) = (s.id, fd)) := Lib.hid (by rw [HST.out]; rw [if_pos (.inl g1)])
                have q1 : decide (p1 < 0) = true := decide_eq_true g1
                go_wp2_with fail
                go_roundw
                case rel => exact ⟨k + 1, hlt, by go_num, B2, B3, by rw [HX.out], by rw [HX.out]⟩
                case measure => simp [intOf]; omega
              have q1 : decide (p1 < 0) = false := decide_eq_false g1
              by_cases g2 : p2 < fd
              · have HX : Hid (M.strong W G cx cy ((es.map (·.s)).take (k + 1)) = (s.id, fd)) := Lib.hid (by rw [HST.out]; rw [if_pos (.inr (.inl g2))])
                have q2 : decide (p2 < fd) = true := decide_eq_true g2
                go_wp2_with fail
                go_roundw
                case rel => exact ⟨k + 1, hlt, by go_num, B2, B3, by rw [HX.out], by rw [HX.out]⟩
                case measure => simp [intOf]; omega
              have q2 : decide (p2 < fd) = false := decide_eq_false g2
              by_cases g3 : ¬ fd = p2
              · have HX : Hid (M.strong W G cx cy ((es.map (·.s)).take (k + 1)) = (p1, p2)) := Lib.hid (by rw [HST.out]; rw [if_neg (by omega)])
                have q3 : (fd == p2) = false := by simp [g3]
                go_wp2_with fail
                go_roundw
                case rel => exact ⟨k + 1, hlt, by go_num, B2, B3, by rw [HX.out], by rw [HX.out]⟩
                case measure => simp [intOf]; omega
              have q3 : (fd == p2) = true := by rw [beq_iff_eq]; omega
              by_cases g4 : s.id < p1
              · have HX : Hid (M.strong W G cx cy ((es.map (·.s)).take (k + 1)) = (s.id, fd)) := Lib.hid (by rw [HST.out]; rw [if_pos (.inr (.inr ⟨by omega, g4⟩))])
                have q4 : decide (s.id < p1) = true := decide_eq_true g4
                go_wp2_with fail
                go_roundw
                case rel => exact ⟨k + 1, hlt, by go_num, B2, B3, by rw [HX.out], by rw [HX.out]⟩
                case measure => simp [intOf]; omega
              have HX : Hid (M.strong W G cx cy ((es.map (·.s)).take (k + 1)) = (p1, p2)) := Lib.hid (by rw [HST.out]; rw [if_neg (by omega)])
              have q4 : decide (s.id < p1) = false := decide_eq_false g4
              go_wp2_with fail
              go_roundw
              case rel => exact ⟨k + 1, hlt, by go_num, B2, B3, by rw [HX.out], by rw [HX.out]⟩
              case measure => simp [intOf]; omega
            · have hkl : k = es.length := by omega
              have HTK : Hid ((es.map (·.s)).take k = es.map (·.s)) := Lib.hid (by rw [List.take_of_length_le (by simp; omega)])
              rw [HTK.out]
              clear hkl
              go_wp2_with fail
              go_ret3
              exact ⟨ret_tri HF.out, hBw⟩
end Go.Proofs.YtfcaikahdcpglaaDoor
