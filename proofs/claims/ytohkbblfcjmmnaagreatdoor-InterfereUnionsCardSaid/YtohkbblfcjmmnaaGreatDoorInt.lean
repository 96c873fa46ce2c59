/- Layer 15: Ratio, check, disturbed; layer 10: At. -/
import Derived.Test.YtohkbblfcjmmnaaGreatDoorRefT
namespace Go.Proofs.YtohkbblfcjmmnaaGreatDoor
open Go Go.RowKit
set_option maxRecDepth 100000

def M.okOff (o : Int) : Bool := decide (-1 ≤ o ∧ o ≤ 1)
def M.ratio (o : Int) : Int := if o = 0 then 30 else -46
theorem M.okOff_iff {o : Int} : M.okOff o = true ↔ o = 0 ∨ o = -1 ∨ o = 1 := by unfold M.okOff; rw [decide_eq_true_eq]; omega
theorem ratio_ok (o : Int) (w : World) (h : M.okOff o = true) : Calls Tryz.prog 10 #[.int .i64 o] w fun e w' => e = .returned (.tuple #[.int .i64 (M.ratio o), .int .i64 0]) ∧ w = w' := by
  rcases M.okOff_iff.1 h with rfl | rfl | rfl
  all_goals
    go_enter Tryz.func10, Tryz.ntmps10
    go_wp2_with fail
    go_ret2
    exact ⟨rfl, rfl⟩
theorem ratio_no (o : Int) (w : World) (h : M.okOff o = false) : Calls Tryz.prog 10 #[.int .i64 o] w fun e w' => e = .returned (.tuple #[.int .i64 0, .int .i64 2]) ∧ w = w' := by
  have h2 : ¬ (o = 0 ∨ o = -1 ∨ o = 1) := fun e => by rw [M.okOff_iff.2 e] at h; cases h
  have q0 : (o == 0) = false := by rw [beq_eq_false_iff_ne]; omega
  have q1 : (o == -1) = false := by rw [beq_eq_false_iff_ne]; omega
  have q2 : (o == 1) = false := by rw [beq_eq_false_iff_ne]; omega
  clear h h2
  go_enter Tryz.func10, Tryz.ntmps10
  go_wp2_with fail
  go_ret2
  exact ⟨rfl, rfl⟩
theorem rRatio_ok (o : Int) (w : World) : Calls Tryz.prog 12 #[.int .i64 o] w fun e w' => e = .returned (.int .i64 (M.ratio o)) ∧ w = w' := by
  by_cases h : o = 0
  · subst h
    go_enter Tryz.func12, Tryz.ntmps12
    go_wp2_with fail
    go_ret
    exact ⟨rfl, rfl⟩
  · have q : (o == 0) = false := by simp [h]
    have HF : Hid (-46 = M.ratio o) := Lib.hid (by unfold M.ratio; rw [if_neg h])
    clear h
    go_enter Tryz.func12, Tryz.ntmps12
    go_wp2_with fail
    go_ret
    exact ⟨ret_int HF.out, rfl⟩

theorem own_any (s : St) (A : Option Addr) (c : Nat) (w : World) : Calls Tryz.prog 47 #[stv s A c] w fun e w' => e = .returned (cv s.x s.y) ∧ Below w.heap.size w w' := by
  obtain ⟨id, x, y, pw, h, pat, bd, ch⟩ := s
  go_enter Tryz.func47, Tryz.ntmps47
  go_wp2_with fail
  exact bodyPost_ret (v := cv x y) (by simp [results, Tryz.results47, go_sem]) rfl ⟨rfl, ((Below.refl w.heap.size w).alloc (Nat.le_refl _) _).alloc (by simp) _⟩

theorem M.okS_eq {W H : Int} {G P : List Int} {s : St} : M.okS W H G P s = (M.svalid s && M.has W H G P s.x s.y) := by
  unfold M.okS
  rw [M.okF_eq]
  cases M.svalid s <;> cases M.has W H G P s.x s.y <;> rfl

set_option maxHeartbeats 8000000 in
theorem icheck_any (W H : Int) (GA PA : Option Addr) (gc pc : Nat) (G P : List Int) (s : St) (A : Option Addr) (c : Nat) (w : World) (hg : Sl 1 icell w w.heap.size GA G) (hp : Sl 1 icell w w.heap.size PA P) (hS : Sl 1 icell w w.heap.size A s.pat)
    (hgl : G.length ≤ 9223372036854775806) (hpl : P.length ≤ 9223372036854775806) (hl : s.pat.length ≤ 9223372036854775806) :
    Calls Tryz.prog 31 #[tv W H GA PA G.length gc P.length pc, stv s A c] w fun e w' => e = .returned (.int .i64 (if M.okS W H G P s then 0 else 2)) ∧ Below w.heap.size w w' := by
  obtain ⟨V, HW, x0, x1, hB, -⟩ := boxes2 w #[.int .i64 W, .int .i64 H, .slice GA G.length gc, .slice PA P.length pc] 24 (stc s A c) 28
  have hg1 := (hg.below hB).more hB.size
  have hp1 := (hp.below hB).more hB.size
  have hS1 := (hS.below hB).more hB.size
  obtain ⟨c0, c1, c2, c3⟩ := x0.c4
  obtain ⟨b0, b1, b2, b3, b4, b5, b6, b7⟩ := x1.c8
  have l0 := x0.lt
  have l1 := x1.lt
  obtain ⟨p, hp'⟩ : ∃ p, M.svalid s = p := ⟨_, rfl⟩
  obtain ⟨q, hq'⟩ : ∃ q, M.has W H G P s.x s.y = q := ⟨_, rfl⟩
  rw [M.okS_eq, hp', hq']
  have kV : Hid (∀ w1, Sl 1 icell w1 w1.heap.size A s.pat → Calls Tryz.prog 45 #[stv s A c] w1 fun e w' => e = .returned (.bool p) ∧ Below w1.heap.size w1 w') := Lib.hid (fun w1 hh => by rw [← hp']; exact sValid_any s A c w1 hh hl)
  have kH : Hid (∀ w1, Sl 1 icell w1 w1.heap.size GA G → Sl 1 icell w1 w1.heap.size PA P → Calls Tryz.prog 46 #[tv W H GA PA G.length gc P.length pc, cv s.x s.y] w1 fun e w' => e = .returned (.bool q) ∧ Below w1.heap.size w1 w') := Lib.hid (fun w1 hh hk => by rw [← hq']; exact has_any W H GA PA gc pc G P s.x s.y w1 hh hk hgl hpl)
  clear hp' hq'
  cases p <;> cases q
  all_goals
    go_enter Tryz.func31, Tryz.ntmps31
    go_wp2_with fail
    rw [HW.out]
    refine wp_region_kept V.heap.size V (by kernel_rfl) (by kernel_rfl) (Below.refl _ _) ?_
    repeat (go_big_quiet_step ((first | (go_at_call 45; exact Kept.calls (Nat.le_refl _) (kV.out _ hS1.kept)) | (go_at_call 47; exact Kept.calls (Nat.le_refl _) (own_any s A c _)) | (go_at_call 46; exact Kept.calls (Nat.le_refl _) (kH.out _ hg1.kept hp1.kept)))))
    refine wpQuiet_nil ?_
    rintro w1 ⟨⟨_, hb1⟩, rfl⟩
    go_wp2_with fail
    go_ret
    exact ⟨rfl, after_ hB hb1⟩

/-- Whether one of some stations disturbs a cell. -/
def M.dist (W : Int) (G : List Int) (a : St) (r cx cy : Int) (l : List St) : Bool := l.any fun b => decide (M.field W G a cx cy - M.field W G b cx cy < r)

set_option maxHeartbeats 8000000 in
theorem disturbed_ok (W H : Int) (GA PA : Option Addr) (gc pc : Nat) (G P : List Int) (a : St) (A : Option Addr) (c : Nat) (r cx cy : Int) (LA : Option Addr) (lc : Nat) (es : List SE) (w : World) (ht : Tab w) (hg : Sl 1 icell w w.heap.size GA G) (hp : Sl 1 icell w w.heap.size PA P) (hS : Sl 1 icell w w.heap.size A a.pat) (hL : Sl 8 secell w w.heap.size LA es) (hP : Pats w es)
    (hl : es.length ≤ 1000) (hok : M.okF W H G P a cx cy = true) (hoks : ∀ e ∈ es, M.okF W H G P e.s cx cy = true) :
    Calls Tryz.prog 34 #[tv W H GA PA G.length gc P.length pc, stv a A c, .int .i64 r, cv cx cy, .slice LA es.length lc] w fun e w' => e = .returned (.tuple #[.bool (M.dist W G a r cx cy (es.map (·.s))), .int .i64 0]) ∧ Below w.heap.size w w' := by
  obtain ⟨V, HW, x0, x1, x2, hB, -⟩ := boxes3 w #[.int .i64 W, .int .i64 H, .slice GA G.length gc, .slice PA P.length pc] 24 (stc a A c) 28 #[.int .i64 cx, .int .i64 cy] 60
  have HOKS := Lib.hid hoks
  have hfa := M.field_bd hok
  obtain ⟨d, hd⟩ : ∃ d, M.dist W G a r cx cy (es.map (·.s)) = d := ⟨_, rfl⟩
  have HY : Hid (∀ k (hk : k < es.length), M.field W G a cx cy - M.field W G es[k].s cx cy < r → true = d) := Lib.hid (fun k hk h => by
    rw [← hd]; unfold M.dist; symm
    rw [List.any_eq_true]
    exact ⟨es[k].s, List.mem_map.2 ⟨_, List.getElem_mem hk, rfl⟩, by simpa using h⟩)
  have HN : Hid ((∀ k (hk : k < es.length), r ≤ M.field W G a cx cy - M.field W G es[k].s cx cy) → false = d) := Lib.hid (fun h => by
    rw [← hd]; unfold M.dist; symm
    rw [List.any_eq_false]
    intro s hs
    obtain ⟨e, he, rfl⟩ := List.mem_map.1 hs
    obtain ⟨j, hj, rfl⟩ := List.getElem_of_mem he
    simpa using h j hj)
  rw [hd]
  clear hd hoks
  obtain ⟨fa, HFA⟩ : ∃ fa, Hid (M.field W G a cx cy = fa) := ⟨_, Lib.hid rfl⟩
  rw [HFA.out] at HY HN hfa
  obtain ⟨c0, c1, c2, c3⟩ := x0.c4
  obtain ⟨b0, b1, b2, b3, b4, b5, b6, b7⟩ := x1.c8
  obtain ⟨d0, d1⟩ := x2.c2
  have hV := HW.out
  go_enter Tryz.func34, Tryz.ntmps34
  go_wp2_with fail
  clear hV c0 c1 c2 c3 b0 b1 b2 b3 b4 b5 b6 b7 d0 d1
  refine (field_ok W H GA PA gc pc G P a A c cx cy V (ht.kept hB) ((hg.below hB).more hB.size) ((hp.below hB).more hB.size) ((hS.below hB).more hB.size) hok).mono ?_
  rintro e w1 ⟨rfl, hb1⟩
  rw [HFA.out]
  have B1 := after_ hB hb1
  have y0 := x0.below hb1
  have y2 := x2.below hb1
  go_wp2_with fail
  go_loopw [15, 16, 17, 30] (fun _ _ _ i wr => ∃ k : Nat, k ≤ es.length ∧ i = .int .i64 k ∧ Below w.heap.size w wr ∧ Below w1.heap.size w1 wr ∧ Hid (∀ j (hj : j < es.length), j < k → r ≤ fa - M.field W G es[j].s cx cy)) (fun _ _ _ i _ => es.length - (intOf i).toNat)
  case atStart => exact ⟨0, Nat.zero_le _, rfl, B1, Below.refl _ _, Lib.hid (fun j _ h => absurd h (by omega))⟩
  case round =>
    obtain ⟨k, hk, rfl, hBw, hBr, HK⟩ := hrel
    by_cases hlt : k < es.length
    · obtain ⟨la, rfl, hlb, a0, a1, a2, a3, a4, a5, a6, a7⟩ := (hL.below hBw).st8 hlt
      have hSk := (hP.below hBw).at_ hlt
      have hok2 := HOKS.out _ (List.getElem_mem hlt)
      have hfb := M.field_bd hok2
      have HYk := Lib.hid (HY.out k hlt)
      have HK2 : Hid (r ≤ fa - M.field W G es[k].s cx cy → ∀ j (hj : j < es.length), j < k + 1 → r ≤ fa - M.field W G es[j].s cx cy) := Lib.hid (fun h j h1 h3 => by
        by_cases e : j = k
        · subst e; exact h
        · exact HK.out j h1 (by omega))
      generalize es[k] = ek at *
      obtain ⟨s, A', c'⟩ := ek
      simp only at a0 a1 a2 a3 a4 a5 a6 a7 hSk hok2 hfb HYk HK2
      obtain ⟨U, HU, u0, hBU, -⟩ := boxes1 wr (stc s A' c') 28
      obtain ⟨b0, b1, b2, b3, b4, b5, b6, b7⟩ := u0.c8
      have hU := HU.out
      have BU := after_ hBw hBU
      obtain ⟨c0, c1, c2, c3⟩ := ((y0.below hBr).below hBU).c4
      obtain ⟨d0, d1⟩ := ((y2.below hBr).below hBU).c2
      go_wp2_with fail
      clear hU
      refine (field_ok W H GA PA gc pc G P s A' c' cx cy U (ht.kept BU) ((hg.below BU).more BU.size) ((hp.below BU).more BU.size) ((hSk.below hBU).more hBU.size) hok2).mono ?_
      rintro e w2 ⟨rfl, hb2⟩
      have B2 := after_ BU hb2
      have B3 := after_ (after_ hBr hBU) hb2
      clear c0 c1 c2 c3 b0 b1 b2 b3 b4 b5 b6 b7 d0 d1 a0 a1 a2 a3 a4 a5 a6 a7
      generalize M.field W G s cx cy = fb at *
      by_cases g : fa - fb < r
      · have q : decide (fa - fb < r) = true := decide_eq_true g
        have HF := Lib.hid (HYk.out g)
        go_wp2_with fail
        go_ret2
        exact ⟨ret_bi HF.out, B2⟩
      · have q : decide (fa - fb < r) = false := decide_eq_false g
        have HK3 := Lib.hid (HK2.out (by omega))
        go_wp2_with fail
        go_roundw
        case rel => exact ⟨k + 1, hlt, by go_num, B2, B3, HK3⟩
        case measure => simp [intOf]; omega
    · have HF := Lib.hid (HN.out (fun j hj => HK.out j hj (by omega)))
      go_wp2_with fail
      go_ret2
      exact ⟨ret_bi HF.out, hBw⟩
end Go.Proofs.YtohkbblfcjmmnaaGreatDoor
