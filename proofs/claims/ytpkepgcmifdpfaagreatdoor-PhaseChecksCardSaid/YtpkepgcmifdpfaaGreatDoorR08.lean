/- A bundle of texts: Tw1, Tw2, Tw3, Tw4. -/
import Derived.Test.YtpkepgcmifdpfaaGreatDoorR07
import Derived.Deep.RegionHeld3
import Derived.Test.YtpkepgcmifdpfaaGreatDoorR04
section
namespace Go.Proofs.YtpkepgcmifdpfaaGreatDoor
open Go Go.RowKit
set_option maxRecDepth 100000
abbrev wv (s : Nat) : Value := .func (.func 112) #[] #[.pointer (some ⟨s + 1, 0, none⟩), .pointer (some ⟨s, 0, none⟩), .pointer (some ⟨s + 2, 0, none⟩)]
abbrev chF (s : Nat) : Value := .func (.func 113) #[] #[.pointer (some ⟨s, 0, none⟩)]
abbrev neF (b : Nat) : Value := .func (.func 92) #[] #[.pointer (some ⟨b, 0, none⟩)]
def M.in2 (lo n hi : Int) : Bool := decide (lo ≤ n ∧ n ≤ hi)
structure Win (w : World) (s : Nat) (n lo hi : Int) : Prop where
  a : Box w s #[.int .i64 n] 3
  b : Box w (s + 1) #[.int .i64 lo] 3
  c : Box w (s + 2) #[.int .i64 hi] 3
theorem Win.below {w w' : World} {s : Nat} {n lo hi : Int} (h : Win w s n lo hi) (hb : Below w.heap.size w w') : Win w' s n lo hi := ⟨h.a.below hb, h.b.below hb, h.c.below hb⟩
theorem hmfT : ∀ (fn : Fn) (first cap : Array Value) (w : World), (Instr.makeFunc fn first cap).run Tryz.prog w = .ok (.func fn first cap) w := fun _ _ _ _ => rfl
set_option maxHeartbeats 4000000 in
theorem within_ok (n lo hi : Int) (w : World) : Calls Tryz.prog 90 #[.int .i64 n, .int .i64 lo, .int .i64 hi] w fun e w' => e = .returned (wv w.heap.size) ∧ Below w.heap.size w w' ∧ w'.heap.size = w.heap.size + 3 ∧ Win w' w.heap.size n lo hi := by
  obtain ⟨V, HW, x0, x1, x2, hB, hs⟩ := boxes3 w #[.int .i64 n] 3 #[.int .i64 lo] 3 #[.int .i64 hi] 3
  have hmf := hmfT
  go_enter Tryz.func90, Tryz.ntmps90
  go_wp2
  rw [HW.out]
  go_ret
  exact ⟨rfl, hB, hs, x0, x1, x2⟩
set_option maxHeartbeats 4000000 in
theorem channel_ok (n : Int) (w : World) : Calls Tryz.prog 91 #[.int .i64 n] w fun e w' => e = .returned (chF w.heap.size) ∧ Below w.heap.size w w' ∧ w'.heap.size = w.heap.size + 1 ∧ Box w' w.heap.size #[.int .i64 n] 3 := by
  obtain ⟨V, HW, x0, hB, hs⟩ := boxes1 w #[.int .i64 n] 3
  have hmf := hmfT
  go_enter Tryz.func91, Tryz.ntmps91
  go_wp2
  rw [HW.out]
  go_ret
  exact ⟨rfl, hB, hs, x0⟩
set_option maxHeartbeats 4000000 in
theorem within1_ok (s : Nat) (n lo hi : Int) (w : World) (h : Win w s n lo hi) : Calls Tryz.prog 112 #[.pointer (some ⟨s + 1, 0, none⟩), .pointer (some ⟨s, 0, none⟩), .pointer (some ⟨s + 2, 0, none⟩)] w fun e w' => e = .returned (.bool (M.in2 lo n hi)) ∧ w = w' := by
  have c0 := h.a.c1
  have c1 := h.b.c1
  have c2 := h.c.c1
  obtain ⟨r, hr⟩ : ∃ r, M.in2 lo n hi = r := ⟨_, rfl⟩
  by_cases h1 : lo ≤ n
  · have q1 : decide (lo ≤ n) = true := decide_eq_true h1
    have q2 : decide (n ≤ hi) = r := by rw [← hr]; unfold M.in2; rw [decide_eq_decide]; omega
    rw [hr]
    clear h1 hr
    go_enter Tryz.func112, Tryz.ntmps112
    go_wp2
    go_ret
    exact ⟨rfl, rfl⟩
  · have q1 : decide (lo ≤ n) = false := decide_eq_false h1
    have q2 : r = false := by rw [← hr]; unfold M.in2; exact decide_eq_false (by omega)
    rw [hr, q2]
    clear h1 hr q2
    go_enter Tryz.func112, Tryz.ntmps112
    go_wp2
    go_ret
    exact ⟨rfl, rfl⟩
set_option maxHeartbeats 4000000 in
theorem channel1_ok (s : Nat) (n : Int) (w : World) (h : Box w s #[.int .i64 n] 3) : Calls Tryz.prog 113 #[.pointer (some ⟨s, 0, none⟩)] w fun e w' => e = .returned (.bool (M.chOk46 n)) ∧ w = w' := by
  have c0 := h.c1
  obtain ⟨r, hr⟩ : ∃ r, M.chOk46 n = r := ⟨_, rfl⟩
  by_cases h0 : n = 0
  · have q1 : (n == 0) = true := by simpa using h0
    have q2 : r = true := by rw [← hr]; unfold M.chOk46; exact decide_eq_true (.inl h0)
    rw [hr, q2]
    clear h0 hr q2
    go_enter Tryz.func113, Tryz.ntmps113
    go_wp2
    go_ret
    exact ⟨rfl, rfl⟩
  have q1 : (n == 0) = false := by simpa using h0
  by_cases h1 : 2 ≤ n
  · have q3 : decide (2 ≤ n) = true := decide_eq_true h1
    have q2 : decide (n ≤ 51) = r := by rw [← hr]; unfold M.chOk46; rw [decide_eq_decide]; omega
    rw [hr]
    clear h1 hr h0
    go_enter Tryz.func113, Tryz.ntmps113
    go_wp2
    go_ret
    exact ⟨rfl, rfl⟩
  · have q3 : decide (2 ≤ n) = false := decide_eq_false h1
    have q2 : r = false := by rw [← hr]; unfold M.chOk46; exact decide_eq_false (by omega)
    rw [hr, q2]
    clear h1 hr q2 h0
    go_enter Tryz.func113, Tryz.ntmps113
    go_wp2
    go_ret
    exact ⟨rfl, rfl⟩
set_option maxHeartbeats 4000000 in
theorem ne1_ok (b : Nat) (m : Mv) (w : World) (h : Box w b (mvc m) 66) : Calls Tryz.prog 92 #[.pointer (some ⟨b, 0, none⟩)] w fun e w' => e = .returned (.bool (decide (m.old ≠ m.new))) ∧ w = w' := by
  obtain ⟨d0, d1, d2, d3, d4, d5⟩ := h.c6'
  obtain ⟨r, hr⟩ : ∃ r, decide (m.old ≠ m.new) = r := ⟨_, rfl⟩
  have q1 : (m.old != m.new) = r := by rw [← hr]; by_cases e : m.old = m.new <;> simp [e]
  rw [hr]
  clear hr
  go_enter Tryz.func92, Tryz.ntmps92
  go_wp2
  go_ret
  exact ⟨rfl, rfl⟩
def M.all7 (m : Mv) : List Bool := [M.in2 0 m.st 511, M.chOk46 m.old, M.chOk46 m.new, decide (m.old ≠ m.new), M.in2 0 m.tw 255, M.in2 0 m.cr 255, M.in2 1 m.wk 52]
theorem M.all7_mvOk (m : Mv) : (M.all7 m).all id = M.mvOk m := by
  unfold M.all7 M.mvOk M.in2 M.chOk46
  simp only [List.all_cons, List.all_nil, Bool.and_true, id]
theorem M.all_no {l : List Bool} {k : Nat} (hk : k < l.length) (h : l.getD k false = false) : l.all id = false := by
  rw [List.getD_eq_getElem?_getD, List.getElem?_eq_getElem hk] at h
  replace h : l[k] = false := h
  rw [List.all_eq_false]
  exact ⟨_, List.getElem_mem hk, by rw [h]; simp⟩
theorem M.all_yes {l : List Bool} (h : ∀ j, j < l.length → l.getD j false = true) : l.all id = true := by
  rw [List.all_eq_true]
  intro x hx
  obtain ⟨k, hk, rfl⟩ := List.getElem_of_mem hx
  have := h k hk
  rwa [List.getD_eq_getElem?_getD, List.getElem?_eq_getElem hk] at this
set_option maxHeartbeats 16000000 in
theorem towerAll_ok (bc : Nat) (t : TypeId) (s1 s2 s3 b s4 s5 s6 : Nat) (m : Mv) (w : World) (hc : Box w bc #[wv s1, chF s2, chF s3, neF b, wv s4, wv s5, wv s6] t) (h1 : Win w s1 m.st 0 511) (h2 : Box w s2 #[.int .i64 m.old] 3) (h3 : Box w s3 #[.int .i64 m.new] 3) (h4 : Box w b (mvc m) 66) (h5 : Win w s4 m.tw 0 255) (h6 : Win w s5 m.cr 0 255) (h7 : Win w s6 m.wk 1 52) :
    Calls Tryz.prog 89 #[.slice (some ⟨bc, 0, none⟩) 7 7] w fun e w' => e = .returned (.bool (M.mvOk m)) ∧ w = w' := by
  rw [← M.all7_mvOk]
  have hlen : (M.all7 m).length = 7 := rfl
  have HY := Lib.hid (M.all_yes (l := M.all7 m))
  have HNO : Hid (∀ k (hk : k < (M.all7 m).length), (M.all7 m).getD k false = false → (M.all7 m).all id = false) := Lib.hid (fun k hk => M.all_no hk)
  have e0 : (M.all7 m).getD 0 false = M.in2 0 m.st 511 := rfl
  have k0 := within1_ok s1 m.st 0 511 w h1
  rw [← e0] at k0
  have a0 : w.cell? ⟨bc, 0, none⟩ = some (wv s1) := hc.cell 0 rfl
  have e1 : (M.all7 m).getD 1 false = M.chOk46 m.old := rfl
  have k1 := channel1_ok s2 m.old w h2
  rw [← e1] at k1
  have a1 : w.cell? ⟨bc, 1, none⟩ = some (chF s2) := hc.cell 1 rfl
  have e2 : (M.all7 m).getD 2 false = M.chOk46 m.new := rfl
  have k2 := channel1_ok s3 m.new w h3
  rw [← e2] at k2
  have a2 : w.cell? ⟨bc, 2, none⟩ = some (chF s3) := hc.cell 2 rfl
  have e3 : (M.all7 m).getD 3 false = decide (m.old ≠ m.new) := rfl
  have k3 := ne1_ok b m w h4
  rw [← e3] at k3
  have a3 : w.cell? ⟨bc, 3, none⟩ = some (neF b) := hc.cell 3 rfl
  have e4 : (M.all7 m).getD 4 false = M.in2 0 m.tw 255 := rfl
  have k4 := within1_ok s4 m.tw 0 255 w h5
  rw [← e4] at k4
  have a4 : w.cell? ⟨bc, 4, none⟩ = some (wv s4) := hc.cell 4 rfl
  have e5 : (M.all7 m).getD 5 false = M.in2 0 m.cr 255 := rfl
  have k5 := within1_ok s5 m.cr 0 255 w h6
  rw [← e5] at k5
  have a5 : w.cell? ⟨bc, 5, none⟩ = some (wv s5) := hc.cell 5 rfl
  have e6 : (M.all7 m).getD 6 false = M.in2 1 m.wk 52 := rfl
  have k6 := within1_ok s6 m.wk 1 52 w h7
  rw [← e6] at k6
  have a6 : w.cell? ⟨bc, 6, none⟩ = some (wv s6) := hc.cell 6 rfl
  have HLEN := Lib.hid hlen
  clear hlen
  generalize M.all7 m = bs at *
  obtain ⟨r, hr⟩ : ∃ r, bs.all id = r := ⟨_, rfl⟩
  rw [hr] at HY HNO ⊢
  clear hr e0 e1 e2 e3 e4 e5 e6
  go_enter Tryz.func89, Tryz.ntmps89
  go_wp2_with fail
  go_loop [4, 7] (fun _ i => ∃ k : Nat, k ≤ 7 ∧ i = .int .i64 k ∧ Hid (∀ j, j < bs.length → j < k → bs.getD j false = true)) (fun _ i => 7 - (intOf i).toNat)
  case atStart => exact ⟨0, by omega, rfl, Lib.hid (fun j _ h => absurd h (by omega))⟩
  case round =>
    obtain ⟨k, hk, rfl, HP⟩ := hrel
    by_cases hlt : k < 7
    · have q0 : decide ((k : Int) < 7) = true := decide_eq_true (by omega)
      have HS : Hid (bs.getD k false = true → ∀ j, j < bs.length → j < k + 1 → bs.getD j false = true) := Lib.hid (fun h j hj hlt2 => by
        by_cases e : j = k
        · subst e; exact h
        · exact HP.out j hj (by omega))
      clear HP
      rcases (by omega : k = 0 ∨ k = 1 ∨ k = 2 ∨ k = 3 ∨ k = 4 ∨ k = 5 ∨ k = 6) with rfl | rfl | rfl | rfl | rfl | rfl | rfl
      · clear k1 a1 k2 a2 k3 a3 k4 a4 k5 a5 k6 a6
        have HB := Lib.hid (HNO.out 0 (by rw [HLEN.out]; decide))
        have HG := Lib.hid HS.out
        clear HNO HS HY
        generalize bs.getD 0 false = bk at *
        unfold wv at a0
        go_wp2_with fail
        refine k0.mono ?_
        rintro e w1 ⟨rfl, rfl⟩
        cases bk with
        | false =>
          have HR := Lib.hid (HB.out rfl)
          clear HB HG
          go_wp2_with fail
          go_ret
          exact ⟨by rw [HR.out]; rfl, rfl⟩
        | true =>
          have HR := Lib.hid (HG.out rfl)
          clear HB HG
          go_wp2_with fail
          go_round
          case rel => exact ⟨1, by omega, by go_num, HR⟩
          case measure => simp [intOf]
      · clear k0 a0 k2 a2 k3 a3 k4 a4 k5 a5 k6 a6
        have HB := Lib.hid (HNO.out 1 (by rw [HLEN.out]; decide))
        have HG := Lib.hid HS.out
        clear HNO HS HY
        generalize bs.getD 1 false = bk at *
        unfold chF at a1
        go_wp2_with fail
        refine k1.mono ?_
        rintro e w1 ⟨rfl, rfl⟩
        cases bk with
        | false =>
          have HR := Lib.hid (HB.out rfl)
          clear HB HG
          go_wp2_with fail
          go_ret
          exact ⟨by rw [HR.out]; rfl, rfl⟩
        | true =>
          have HR := Lib.hid (HG.out rfl)
          clear HB HG
          go_wp2_with fail
          go_round
          case rel => exact ⟨2, by omega, by go_num, HR⟩
          case measure => simp [intOf]
      · clear k0 a0 k1 a1 k3 a3 k4 a4 k5 a5 k6 a6
        have HB := Lib.hid (HNO.out 2 (by rw [HLEN.out]; decide))
        have HG := Lib.hid HS.out
        clear HNO HS HY
        generalize bs.getD 2 false = bk at *
        unfold chF at a2
        go_wp2_with fail
        refine k2.mono ?_
        rintro e w1 ⟨rfl, rfl⟩
        cases bk with
        | false =>
          have HR := Lib.hid (HB.out rfl)
          clear HB HG
          go_wp2_with fail
          go_ret
          exact ⟨by rw [HR.out]; rfl, rfl⟩
        | true =>
          have HR := Lib.hid (HG.out rfl)
          clear HB HG
          go_wp2_with fail
          go_round
          case rel => exact ⟨3, by omega, by go_num, HR⟩
          case measure => simp [intOf]
      · clear k0 a0 k1 a1 k2 a2 k4 a4 k5 a5 k6 a6
        have HB := Lib.hid (HNO.out 3 (by rw [HLEN.out]; decide))
        have HG := Lib.hid HS.out
        clear HNO HS HY
        generalize bs.getD 3 false = bk at *
        unfold neF at a3
        go_wp2_with fail
        refine k3.mono ?_
        rintro e w1 ⟨rfl, rfl⟩
        cases bk with
        | false =>
          have HR := Lib.hid (HB.out rfl)
          clear HB HG
          go_wp2_with fail
          go_ret
          exact ⟨by rw [HR.out]; rfl, rfl⟩
        | true =>
          have HR := Lib.hid (HG.out rfl)
          clear HB HG
          go_wp2_with fail
          go_round
          case rel => exact ⟨4, by omega, by go_num, HR⟩
          case measure => simp [intOf]
      · clear k0 a0 k1 a1 k2 a2 k3 a3 k5 a5 k6 a6
        have HB := Lib.hid (HNO.out 4 (by rw [HLEN.out]; decide))
        have HG := Lib.hid HS.out
        clear HNO HS HY
        generalize bs.getD 4 false = bk at *
        unfold wv at a4
        go_wp2_with fail
        refine k4.mono ?_
        rintro e w1 ⟨rfl, rfl⟩
        cases bk with
        | false =>
          have HR := Lib.hid (HB.out rfl)
          clear HB HG
          go_wp2_with fail
          go_ret
          exact ⟨by rw [HR.out]; rfl, rfl⟩
        | true =>
          have HR := Lib.hid (HG.out rfl)
          clear HB HG
          go_wp2_with fail
          go_round
          case rel => exact ⟨5, by omega, by go_num, HR⟩
          case measure => simp [intOf]
      · clear k0 a0 k1 a1 k2 a2 k3 a3 k4 a4 k6 a6
        have HB := Lib.hid (HNO.out 5 (by rw [HLEN.out]; decide))
        have HG := Lib.hid HS.out
        clear HNO HS HY
        generalize bs.getD 5 false = bk at *
        unfold wv at a5
        go_wp2_with fail
        refine k5.mono ?_
        rintro e w1 ⟨rfl, rfl⟩
        cases bk with
        | false =>
          have HR := Lib.hid (HB.out rfl)
          clear HB HG
          go_wp2_with fail
          go_ret
          exact ⟨by rw [HR.out]; rfl, rfl⟩
        | true =>
          have HR := Lib.hid (HG.out rfl)
          clear HB HG
          go_wp2_with fail
          go_round
          case rel => exact ⟨6, by omega, by go_num, HR⟩
          case measure => simp [intOf]
      · clear k0 a0 k1 a1 k2 a2 k3 a3 k4 a4 k5 a5
        have HB := Lib.hid (HNO.out 6 (by rw [HLEN.out]; decide))
        have HG := Lib.hid HS.out
        clear HNO HS HY
        generalize bs.getD 6 false = bk at *
        unfold wv at a6
        go_wp2_with fail
        refine k6.mono ?_
        rintro e w1 ⟨rfl, rfl⟩
        cases bk with
        | false =>
          have HR := Lib.hid (HB.out rfl)
          clear HB HG
          go_wp2_with fail
          go_ret
          exact ⟨by rw [HR.out]; rfl, rfl⟩
        | true =>
          have HR := Lib.hid (HG.out rfl)
          clear HB HG
          go_wp2_with fail
          go_round
          case rel => exact ⟨7, by omega, by go_num, HR⟩
          case measure => simp [intOf]
    · obtain rfl : k = 7 := by omega
      have HR := Lib.hid (HY.out (fun j hj => HP.out j hj (by have := HLEN.out; omega)))
      go_wp2_with fail
      go_ret
      exact ⟨by rw [HR.out]; rfl, rfl⟩
end Go.Proofs.YtpkepgcmifdpfaaGreatDoor
end

section
namespace Go.Proofs.YtpkepgcmifdpfaaGreatDoor
open Go Go.RowKit
set_option maxRecDepth 100000
theorem hold6 {w : World} {b : Nat} {m : Mv} {t : TypeId} (h : Box w b (mvc m) t) : w.cell? ⟨b, 0, none⟩ = some (.int .i64 m.st) ∧ w.cell? ⟨b, 1, none⟩ = some (.int .i64 m.old) ∧ w.cell? ⟨b, 2, none⟩ = some (.int .i64 m.new) ∧ w.cell? ⟨b, 3, none⟩ = some (.int .i64 m.tw) ∧ w.cell? ⟨b, 4, none⟩ = some (.int .i64 m.cr) ∧ w.cell? ⟨b, 5, none⟩ = some (.int .i64 m.wk) := h.c6'
set_option maxHeartbeats 16000000 in
theorem towerValid_ok (m : Mv) (w : World) : Calls Tryz.prog 62 #[mvv m] w fun e w' => e = .returned (.bool (M.mvOk m)) ∧ Below w.heap.size w w' := by
 obtain ⟨V, HW, x0, hB, hs⟩ := boxes1 w (mvc m) 66
 have HS := Lib.hid hs
 have hmf := hmfT
 have hV := HW.out
 clear hs
 go_enter Tryz.func62, Tryz.ntmps62
 go_wp2_with fail
 clear hV
 have y0 : Box V.drew w.heap.size (mvc m) 66 := x0
 have hBd : Below w.heap.size w V.drew := hB.drew
 clear x0 hB
 have K0 := hold6 y0
 have kA : ∀ wa, Below V.drew.heap.size V.drew wa → _ := fun wa hba => hold6 (y0.below hba)
 have kB : ∀ wa o, Below V.drew.heap.size V.drew wa → _ := fun wa o hba => hold6 ((y0.below hba).below ((Below.refl wa.heap.size wa).alloc (Nat.le_refl _) o))
 go_region_held3 (fun w' => w'.cell? ⟨w.heap.size, 0, none⟩ = some (.int .i64 m.st) ∧ w'.cell? ⟨w.heap.size, 1, none⟩ = some (.int .i64 m.old) ∧ w'.cell? ⟨w.heap.size, 2, none⟩ = some (.int .i64 m.new) ∧ w'.cell? ⟨w.heap.size, 3, none⟩ = some (.int .i64 m.tw) ∧ w'.cell? ⟨w.heap.size, 4, none⟩ = some (.int .i64 m.cr) ∧ w'.cell? ⟨w.heap.size, 5, none⟩ = some (.int .i64 m.wk)) (first | with_reducible exact K0 | with_reducible exact kA _ (by assumption) | with_reducible exact kB _ _ (by assumption))
  (first
   | (go_at_call 90; ((with_reducible refine (within_ok m.st 0 511 _).mono ?_); rintro e wa ⟨rfl, hba, -, ga⟩))
   | (go_at_call 91; ((with_reducible refine (channel_ok m.old _).mono ?_); rintro e wb ⟨rfl, hbb, -, gb⟩; have hbB := after_ hba hbb))
   | (go_at_call 91; ((with_reducible refine (channel_ok m.new _).mono ?_); rintro e wc ⟨rfl, hbc, -, gc⟩; have hbC := after_ hbB hbc))
   | (go_at_call 90; ((with_reducible refine (within_ok m.tw 0 255 _).mono ?_); rintro e wd ⟨rfl, hbd, -, gd⟩; have hbD := after_ hbC hbd))
   | (go_at_call 90; ((with_reducible refine (within_ok m.cr 0 255 _).mono ?_); rintro e we ⟨rfl, hbe, -, ge⟩; have hbE := after_ hbD hbe))
   | (go_at_call 90; ((with_reducible refine (within_ok m.wk 1 52 _).mono ?_); rintro e wf ⟨rfl, hbf, -, gf⟩; have hbF := after_ hbE hbf))
   | (go_at_call 89; have kk := towerAll_ok wf.heap.size 31 V.heap.size wa.heap.size wb.heap.size w.heap.size wc.heap.size wd.heap.size we.heap.size m (wf.alloc (.cells #[wv V.heap.size, chF wa.heap.size, chF wb.heap.size, neF w.heap.size, wv wc.heap.size, wv wd.heap.size, wv we.heap.size] 31)) (Box.new _ _ _) ((((((ga.below hbb).below hbc).below hbd).below hbe).below hbf).below ((Below.refl wf.heap.size wf).alloc (Nat.le_refl _) _)) (((((gb.below hbc).below hbd).below hbe).below hbf).alloc _) ((((gc.below hbd).below hbe).below hbf).alloc _) ((y0.below hbF).alloc _) (((gd.below hbe).below hbf).below ((Below.refl wf.heap.size wf).alloc (Nat.le_refl _) _)) ((ge.below hbf).below ((Below.refl wf.heap.size wf).alloc (Nat.le_refl _) _)) (gf.below ((Below.refl wf.heap.size wf).alloc (Nat.le_refl _) _)); ((with_reducible refine kk.mono ?_); rintro e wg ⟨rfl, rfl⟩)))
 all_goals
  go_wp2_with fail
  go_ret
  exact ⟨rfl, after_ hBd (hbF.alloc hbF.size _)⟩
end Go.Proofs.YtpkepgcmifdpfaaGreatDoor
end

section
namespace Go.Proofs.YtpkepgcmifdpfaaGreatDoor
open Go Go.RowKit
set_option maxRecDepth 100000
set_option maxHeartbeats 16000000 in
theorem towerMoves_ok (LA : Option Addr) (lc : Nat) (l : List Mv) (w : World) (hL : Sl 6 mvcell w w.heap.size LA l) (hl : l.length ≤ 9223372036854775806) :
    Calls Tryz.prog 33 #[.slice LA l.length lc] w fun e w' => (∃ r : Bool, e = .returned (.bool r) ∧ (r = true ↔ M.mvsOk l)) ∧ Below w.heap.size w w' := by
  go_enter Tryz.func33, Tryz.ntmps33
  by_cases hbig : 512 < l.length
  · have q0 : decide ((512 : Int) < (l.length : Int)) = true := decide_eq_true (by omega)
    have HF : Hid (¬ M.mvsOk l) := Lib.hid (fun h => by have := h.1; omega)
    go_wp2_with fail
    go_ret
    exact ⟨⟨_, rfl, by constructor; (intro h; cases h); (intro h; exact absurd h HF.out)⟩, Below.refl _ _⟩
  have q00 : decide ((512 : Int) < (l.length : Int)) = false := decide_eq_false (by omega)
  go_wp2_with fail
  clear q00
  go_loopw [3, 4, 10] (fun _ _ i wr => ∃ k : Nat, k ≤ l.length ∧ i = .int .i64 k ∧ Below w.heap.size w wr ∧ Hid (M.mvsTo l k)) (fun _ _ i _ => l.length - (intOf i).toNat)
  case atStart => exact ⟨0, Nat.zero_le _, rfl, Below.refl _ _, Lib.hid (fun j _ h => absurd h (by omega))⟩
  case round =>
    obtain ⟨k, hk, rfl, hBr, HN⟩ := hrel
    by_cases hlt : k < l.length
    · obtain ⟨la, hla, hlb, a0, a1, a2, a3, a4, a5⟩ := (hL.below hBr).mv6 hlt
      have l1 := Nat.lt_of_lt_of_le hlb hBr.size
      have x0 : (0 : Int) ≤ (k : Int) := by omega
      have x1 : (k : Int) < (l.length : Int) := by omega
      have q0 : decide ((k : Int) < (l.length : Int)) = true := decide_eq_true x1
      obtain ⟨X, HX, u0, hbX, hsX⟩ := boxes1 wr (mvc l[k]) 66
      have BX := after_ hBr hbX
      have hl2 : wr.heap.size < X.heap.size := u0.lt
      have hX := HX.out
      clear hsX
      obtain ⟨r, hr⟩ : ∃ r, M.mvOk l[k] = r := ⟨_, rfl⟩
      have kV : Hid (∀ u : Kept X.heap.size X, Calls Tryz.prog 62 #[mvv l[k]] u.val fun e w' => e = .returned (.bool r) ∧ Below u.val.heap.size u.val w') := Lib.hid (fun u => by rw [← hr]; exact towerValid_ok l[k] u.val)
      have HNO : Hid (r = false ∨ (∃ h0 : 0 < k, ¬ (l[k - 1]'(by omega)).st < l[k].st) → ¬ M.mvsOk l) := Lib.hid (fun h => M.mvsTo_no hlt (fun h2 => by
        rcases h with h | ⟨h0, h⟩
        · rw [← hr, h2.1] at h; cases h
        · exact h (h2.2 h0)))
      have HYE : Hid (r = true → (∀ h0 : 0 < k, (l[k - 1]'(by omega)).st < l[k].st) → M.mvsTo l (k + 1)) := Lib.hid (fun h h2 => M.mvsTo_yes HN.out hlt (hr.trans h) h2)
      clear hr HN
      cases r with
      | false =>
        have HF := Lib.hid (HNO.out (.inl rfl))
        clear HNO HYE
        generalize l[k] = m at *
        subst hla
        obtain ⟨u1, u2, u3, u4, u5, u6⟩ := u0.c6'
        go_wp2_with fail
        clear hX
        refine wp_region_kept X.heap.size X (by kernel_rfl) (by kernel_rfl) (Below.refl _ _) ?_
        repeat (go_big_quiet_step ((go_at_call 62; exact Kept.calls (Nat.le_refl _) (kV.out _))))
        refine wpQuiet_nil ?_
        rintro w5 ⟨⟨w5x, hb5⟩, hw5⟩
        dsimp only at hw5
        subst hw5
        go_wp2_with fail
        go_ret
        exact ⟨⟨_, rfl, by constructor; (intro h; cases h); (intro h; exact absurd h HF.out)⟩, after_ BX hb5⟩
      | true =>
        by_cases hk0 : k = 0
        · have HE := Lib.hid (HYE.out rfl (fun h0 => absurd h0 (by omega)))
          have q1 : decide ((0 : Int) < (k : Int)) = false := decide_eq_false (by omega)
          have q2 : decide (0 < k) = false := decide_eq_false (by omega)
          clear HNO HYE hk0
          generalize l[k] = m at *
          subst hla
          obtain ⟨u1, u2, u3, u4, u5, u6⟩ := u0.c6'
          go_wp2_with fail
          clear hX
          refine wp_region_kept X.heap.size X (by kernel_rfl) (by kernel_rfl) (Below.refl _ _) ?_
          repeat (go_big_quiet_step ((go_at_call 62; exact Kept.calls (Nat.le_refl _) (kV.out _))))
          refine wpQuiet_nil ?_
          rintro w5 ⟨⟨w5x, hb5⟩, hw5⟩
          dsimp only at hw5
          subst hw5
          go_wp2_with fail
          go_roundw
          case rel => exact ⟨k + 1, hlt, by go_num, after_ BX hb5, HE⟩
          case measure => simp [intOf]; omega
        · have q1 : decide ((0 : Int) < (k : Int)) = true := decide_eq_true (by omega)
          have q2 : decide (0 < k) = true := decide_eq_true (by omega)
          obtain ⟨pj, hpj⟩ : ∃ pj, k = pj + 1 := ⟨k - 1, by omega⟩
          have hwk : IntKind.i64.wrap ((k : Int) - 1) = (pj : Int) := by rw [show (k : Int) - 1 = (pj : Int) by omega, IntWalk.i64_left]; exact IntWalk.wrap64_in _ (by omega)
          obtain ⟨la2, hla2, hlb2, p0, -⟩ := (hL.below hBr).mv6 (k := pj) (by omega)
          obtain rfl : la = la2 := Option.some.inj (hla.symm.trans hla2)
          clear hla2
          have l2 := Nat.lt_of_lt_of_le hlb2 hBr.size
          have y0 : (0 : Int) ≤ (pj : Int) := by omega
          have y1 : (pj : Int) < (l.length : Int) := by omega
          have hpe : (l[k - 1]'(by omega)) = (l[pj]'(by omega)) := by congr 1; omega
          have HNO2 : Hid (¬ (l[pj]'(by omega)).st < l[k].st → ¬ M.mvsOk l) := Lib.hid (fun h => HNO.out (.inr ⟨by omega, by rw [hpe]; exact h⟩))
          have HYE2 : Hid ((l[pj]'(by omega)).st < l[k].st → M.mvsTo l (k + 1)) := Lib.hid (fun h => HYE.out rfl (fun _ => by rw [hpe]; exact h))
          clear HNO HYE hpe hk0
          generalize (l[pj]'(by omega)).st = pid at *
          generalize l[k] = m at *
          have HPJ := Lib.hid hpj
          clear hpj
          subst hla
          have p0X : X.cell? (la.add (pj * 6)) = some (.int .i64 pid) := (hbX.cell (p := la.add (pj * 6)) l2).trans p0
          have l2X := Nat.lt_of_lt_of_le l2 hbX.size
          obtain ⟨u1, u2, u3, u4, u5, u6⟩ := u0.c6'
          by_cases hc : m.st ≤ pid
          · have q3 : decide (m.st ≤ pid) = true := decide_eq_true hc
            have HF := Lib.hid (HNO2.out (by omega))
            clear HNO2 HYE2 hc
            go_wp2_with fail
            clear hX
            refine wp_region_kept X.heap.size X (by kernel_rfl) (by kernel_rfl) (Below.refl _ _) ?_
            repeat (go_big_quiet_step ((go_at_call 62; exact Kept.calls (Nat.le_refl _) (kV.out _))))
            refine wpQuiet_nil ?_
            rintro w5 ⟨⟨w5x, hb5⟩, hw5⟩
            dsimp only at hw5
            subst hw5
            go_wp2_with fail
            go_ret
            exact ⟨⟨_, rfl, by constructor; (intro h; cases h); (intro h; exact absurd h HF.out)⟩, after_ BX hb5⟩
          · have q3 : decide (m.st ≤ pid) = false := decide_eq_false hc
            have HE := Lib.hid (HYE2.out (by omega))
            clear HNO2 HYE2 hc
            go_wp2_with fail
            clear hX
            refine wp_region_kept X.heap.size X (by kernel_rfl) (by kernel_rfl) (Below.refl _ _) ?_
            repeat (go_big_quiet_step ((go_at_call 62; exact Kept.calls (Nat.le_refl _) (kV.out _))))
            refine wpQuiet_nil ?_
            rintro w5 ⟨⟨w5x, hb5⟩, hw5⟩
            dsimp only at hw5
            subst hw5
            go_wp2_with fail
            go_roundw
            case rel => exact ⟨k + 1, hlt, by go_num, after_ BX hb5, HE⟩
            case measure => simp [intOf]; omega
    · obtain rfl : k = l.length := by omega
      have HA := Lib.hid (M.mvsTo_all.1 HN.out)
      have q0 : decide ((l.length : Int) < (l.length : Int)) = false := decide_eq_false (by omega)
      have HR : Hid (M.mvsOk l) := Lib.hid ⟨by omega, HA.out⟩
      go_wp2_with fail
      go_ret
      exact ⟨⟨_, rfl, by constructor; (intro _; exact HR.out); (intro _; rfl)⟩, hBr⟩
set_option maxHeartbeats 4000000 in
theorem dpCheck_ok (PA : Option Addr) (pc np : Nat) (ps : List P5) (LA : Option Addr) (lc : Nat) (l : List Mv) (w : World) (hnp : np = ps.length) (hL : Sl 6 mvcell w w.heap.size LA l) (hl : l.length ≤ 9223372036854775806) :
    Calls Tryz.prog 115 #[.slice PA np pc, .slice LA l.length lc] w fun e w' => (∃ er : Int, e = .returned (.int .i64 er) ∧ M.errIs ps l er) ∧ Below w.heap.size w w' := by
  have HNP := Lib.hid hnp
  clear hnp
  go_enter Tryz.func115, Tryz.ntmps115
  go_wp2_with fail
  refine (towerMoves_ok LA lc l w hL hl).mono ?_
  rintro e w1 ⟨⟨r, rfl, hr⟩, hb1⟩
  have HR := Lib.hid hr
  clear hr
  cases r with
  | false =>
    have HF : Hid (¬ M.mvsOk l) := Lib.hid (fun h => by have := HR.out.2 h; cases this)
    go_wp2_with fail
    go_ret
    exact ⟨⟨2, rfl, .inr (.inr ⟨HF.out, rfl⟩)⟩, hb1⟩
  | true =>
    have HT : Hid (M.mvsOk l) := Lib.hid (HR.out.1 rfl)
    by_cases hbig : 20000 < np
    · have q0 : decide ((20000 : Int) < (np : Int)) = true := decide_eq_true (by omega)
      go_wp2_with fail
      go_ret
      exact ⟨⟨7, rfl, .inr (.inl ⟨HT.out, by rw [← HNP.out]; exact hbig, rfl⟩)⟩, hb1⟩
    · have q0 : decide ((20000 : Int) < (np : Int)) = false := decide_eq_false (by omega)
      go_wp2_with fail
      go_ret
      exact ⟨⟨0, rfl, .inl ⟨HT.out, by rw [← HNP.out]; omega, rfl⟩⟩, hb1⟩
end Go.Proofs.YtpkepgcmifdpfaaGreatDoor
end

section
namespace Go.Proofs.YtpkepgcmifdpfaaGreatDoor
open Go Go.RowKit
set_option maxRecDepth 100000
abbrev sic (s : Si) : Array Value := #[.int .i64 s.id, .int .i64 s.cp]
abbrev siv (s : Si) : Value := .agg (sic s)
def sicell (s : Si) (j : Nat) : Value := ((sic s)[j]?).getD (.int .i64 0)
theorem Sl.si2 {w : World} {B : Nat} {A : Option Addr} {l : List Si} {k : Nat} (h : Sl 2 sicell w B A l) (hk : k < l.length) :
    ∃ la, A = some la ∧ (la.add (k * 2)).block < B ∧ w.cell? (la.add (k * 2)) = some (.int .i64 l[k].id) ∧ w.cell? ⟨(la.add (k * 2)).block, (la.add (k * 2)).off + 1, none⟩ = some (.int .i64 l[k].cp) := by
  obtain ⟨ad, e, hb, h0, hj⟩ := h.sp (by decide) hk
  exact ⟨ad, e, hb, h0, hj 1 (by decide) (by decide)⟩
set_option maxHeartbeats 16000000 in
theorem towerSites_ok (LA : Option Addr) (lc : Nat) (l : List Si) (w : World) (hL : Sl 2 sicell w w.heap.size LA l) (hl : l.length ≤ 9223372036854775806) (r : Bool) (hr : r = true ↔ M.sisOk l) :
    Calls Tryz.prog 34 #[.slice LA l.length lc] w fun e w' => e = .returned (.bool r) ∧ Below w.heap.size w w' := by
  have HQ : Hid ((¬ M.sisOk l → r = false) ∧ (M.sisOk l → r = true)) := Lib.hid ⟨fun h => by cases r <;> simp_all, fun h => hr.2 h⟩
  clear hr
  go_enter Tryz.func34, Tryz.ntmps34
  go_wp2_with fail
  go_loopw [3, 4, 7] (fun _ _ i wr => ∃ k : Nat, k ≤ l.length ∧ i = .int .i64 k ∧ Below w.heap.size w wr ∧ Hid (M.sisTo l k)) (fun _ _ i _ => l.length - (intOf i).toNat)
  case atStart => exact ⟨0, Nat.zero_le _, rfl, Below.refl _ _, Lib.hid (fun j _ h => absurd h (by omega))⟩
  case round =>
    obtain ⟨k, hk, rfl, hBr, HN⟩ := hrel
    by_cases hlt : k < l.length
    · obtain ⟨la, rfl, hlb, a0, a1⟩ := (hL.below hBr).si2 hlt
      have l1 := Nat.lt_of_lt_of_le hlb hBr.size
      have x0 : (0 : Int) ≤ (k : Int) := by omega
      have x1 : (k : Int) < (l.length : Int) := by omega
      have q0 : decide ((k : Int) < (l.length : Int)) = true := decide_eq_true x1
      obtain ⟨s, hs⟩ : ∃ s, l[k] = s := ⟨_, rfl⟩
      have HS := Lib.hid hs
      rw [hs] at a0 a1
      clear hs
      obtain ⟨X, HX, u0, hbX, -⟩ := boxes1 wr (sic s) 64
      have BX := after_ hBr hbX
      have hX := HX.out
      obtain ⟨u1, u2⟩ := u0.c2
      have hl2 : wr.heap.size < X.heap.size := u0.lt
      by_cases c0 : s.id < 0
      case pos =>
        have q0 : decide (s.id < 0) = true := decide_eq_true c0
        have HF : Hid (r = false) := Lib.hid (HQ.out.1 <| M.sisTo_no hlt (fun h2 => by have := M.siOk_iff.1 h2.1; rw [HS.out] at this; omega))
        clear c0
        go_wp2_with fail
        go_ret
        exact ⟨by rw [HF.out]; rfl, BX⟩
      have q0 : decide (s.id < 0) = false := decide_eq_false c0
      have C0 := Lib.hid c0
      clear c0
      by_cases c1 : 255 < s.id
      case pos =>
        have q1 : decide (255 < s.id) = true := decide_eq_true c1
        have HF : Hid (r = false) := Lib.hid (HQ.out.1 <| M.sisTo_no hlt (fun h2 => by have := M.siOk_iff.1 h2.1; rw [HS.out] at this; omega))
        clear c1
        go_wp2_with fail
        go_ret
        exact ⟨by rw [HF.out]; rfl, BX⟩
      have q1 : decide (255 < s.id) = false := decide_eq_false c1
      have C1 := Lib.hid c1
      clear c1
      by_cases c2 : s.cp < 1
      case pos =>
        have q2 : decide (s.cp < 1) = true := decide_eq_true c2
        have HF : Hid (r = false) := Lib.hid (HQ.out.1 <| M.sisTo_no hlt (fun h2 => by have := M.siOk_iff.1 h2.1; rw [HS.out] at this; omega))
        clear c2
        go_wp2_with fail
        go_ret
        exact ⟨by rw [HF.out]; rfl, BX⟩
      have q2 : decide (s.cp < 1) = false := decide_eq_false c2
      have C2 := Lib.hid c2
      clear c2
      by_cases c3 : 64 < s.cp
      case pos =>
        have q3 : decide (64 < s.cp) = true := decide_eq_true c3
        have HF : Hid (r = false) := Lib.hid (HQ.out.1 <| M.sisTo_no hlt (fun h2 => by have := M.siOk_iff.1 h2.1; rw [HS.out] at this; omega))
        clear c3
        go_wp2_with fail
        go_ret
        exact ⟨by rw [HF.out]; rfl, BX⟩
      have q3 : decide (64 < s.cp) = false := decide_eq_false c3
      have C3 := Lib.hid c3
      clear c3
      by_cases hk0 : k = 0
      · have HE : Hid (M.sisTo l (k + 1)) := Lib.hid (M.sisTo_yes HN.out hlt (by rw [HS.out]; exact M.siOk_iff.2 ⟨by have := C0.out; omega, by have := C1.out; omega, by have := C2.out; omega, by have := C3.out; omega⟩) (fun h0 => absurd h0 (by omega)))
        have q5 : decide ((0 : Int) < (k : Int)) = false := decide_eq_false (by omega)
        have q6 : decide (0 < k) = false := decide_eq_false (by omega)
        clear HN hk0
        go_wp2_with fail
        clear hX
        refine wp_region_kept X.heap.size X (by kernel_rfl) (by kernel_rfl) (Below.refl _ _) ?_
        repeat (go_big_quiet_step (fail))
        refine wpQuiet_nil ?_
        rintro w5 ⟨⟨w5x, hb5⟩, hw5⟩
        dsimp only at hw5
        subst hw5
        go_wp2_with fail
        go_roundw
        case rel => exact ⟨k + 1, hlt, by go_num, after_ BX hb5, HE⟩
        case measure => simp [intOf]; omega
      obtain ⟨pj, hpj⟩ : ∃ pj, k = pj + 1 := ⟨k - 1, by omega⟩
      have q5 : decide ((0 : Int) < (k : Int)) = true := decide_eq_true (by omega)
      have q6 : decide (0 < k) = true := decide_eq_true (by omega)
      have hwk : IntKind.i64.wrap ((k : Int) - 1) = (pj : Int) := by rw [show (k : Int) - 1 = (pj : Int) by omega, IntWalk.i64_left]; exact IntWalk.wrap64_in _ (by omega)
      obtain ⟨la2, hla2, hlb2, p0, -⟩ := (hL.below hBr).si2 (k := pj) (by omega)
      obtain rfl : la = la2 := Option.some.inj hla2
      clear hla2
      have l2 := Nat.lt_of_lt_of_le hlb2 hBr.size
      have y0 : (0 : Int) ≤ (pj : Int) := by omega
      have y1 : (pj : Int) < (l.length : Int) := by omega
      have hpe : (l[k - 1]'(by omega)) = (l[pj]'(by omega)) := by congr 1; omega
      have HNO2 : Hid (s.id ≤ (l[pj]'(by omega)).id → r = false) := Lib.hid (fun h => HQ.out.1 <| M.sisTo_no hlt (fun h2 => by have := h2.2 (by omega); rw [hpe, HS.out] at this; omega))
      have HYE2 : Hid ((l[pj]'(by omega)).id < s.id → M.sisTo l (k + 1)) := Lib.hid (fun h => M.sisTo_yes HN.out hlt (by rw [HS.out]; exact M.siOk_iff.2 ⟨by have := C0.out; omega, by have := C1.out; omega, by have := C2.out; omega, by have := C3.out; omega⟩) (fun _ => by rw [hpe, HS.out]; exact h))
      clear hpe hk0 HN
      generalize (l[pj]'(by omega)).id = pid at *
      have HPJ := Lib.hid hpj
      clear hpj
      have p0X : X.cell? (la.add (pj * 2)) = some (.int .i64 pid) := (hbX.cell (p := la.add (pj * 2)) l2).trans p0
      have l2X := Nat.lt_of_lt_of_le l2 hbX.size
      by_cases hc : s.id ≤ pid
      · have q3' : decide (s.id ≤ pid) = true := decide_eq_true hc
        have HF := Lib.hid (HNO2.out hc)
        clear HNO2 HYE2 hc
        go_wp2_with fail
        clear hX
        refine wp_region_kept X.heap.size X (by kernel_rfl) (by kernel_rfl) (Below.refl _ _) ?_
        repeat (go_big_quiet_step (fail))
        refine wpQuiet_nil ?_
        rintro w5 ⟨⟨w5x, hb5⟩, hw5⟩
        dsimp only at hw5
        subst hw5
        go_wp2_with fail
        go_ret
        exact ⟨by rw [HF.out]; rfl, after_ BX hb5⟩
      have q3' : decide (s.id ≤ pid) = false := decide_eq_false hc
      have HE := Lib.hid (HYE2.out (by omega))
      clear HNO2 HYE2 hc
      go_wp2_with fail
      clear hX
      refine wp_region_kept X.heap.size X (by kernel_rfl) (by kernel_rfl) (Below.refl _ _) ?_
      repeat (go_big_quiet_step (fail))
      refine wpQuiet_nil ?_
      rintro w5 ⟨⟨w5x, hb5⟩, hw5⟩
      dsimp only at hw5
      subst hw5
      go_wp2_with fail
      go_roundw
      case rel => exact ⟨k + 1, hlt, by go_num, after_ BX hb5, HE⟩
      case measure => simp [intOf]; omega
    · obtain rfl : k = l.length := by omega
      have HR := Lib.hid (HQ.out.2 (M.sisTo_all.1 HN.out))
      have q0 : decide ((l.length : Int) < (l.length : Int)) = false := decide_eq_false (by omega)
      clear HN
      go_wp2_with fail
      go_ret
      exact ⟨by rw [HR.out]; rfl, hBr⟩
set_option maxHeartbeats 16000000 in
theorem rSites_ok (LA : Option Addr) (lc : Nat) (l : List Si) (w : World) (hL : Sl 2 sicell w w.heap.size LA l) (hl : l.length ≤ 9223372036854775806) (r : Bool) (hr : r = true ↔ M.sisOk l) :
    Calls Tryz.prog 36 #[.slice LA l.length lc] w fun e w' => e = .returned (.bool r) ∧ Below w.heap.size w w' := by
  have HQ : Hid ((¬ M.sisOk l → r = false) ∧ (M.sisOk l → r = true)) := Lib.hid ⟨fun h => by cases r <;> simp_all, fun h => hr.2 h⟩
  clear hr
  go_enter Tryz.func36, Tryz.ntmps36
  go_wp2_with fail
  go_loopw [3] (fun i wr => ∃ k : Nat, k ≤ l.length ∧ i = .int .i64 k ∧ Below w.heap.size w wr ∧ Hid (M.sisTo l k)) (fun i _ => l.length - (intOf i).toNat)
  case atStart => exact ⟨0, Nat.zero_le _, rfl, Below.refl _ _, Lib.hid (fun j _ h => absurd h (by omega))⟩
  case round =>
    obtain ⟨k, hk, rfl, hBr, HN⟩ := hrel
    by_cases hlt : k < l.length
    · obtain ⟨la, rfl, hlb, a0, a1⟩ := (hL.below hBr).si2 hlt
      have l1 := Nat.lt_of_lt_of_le hlb hBr.size
      have x0 : (0 : Int) ≤ (k : Int) := by omega
      have x1 : (k : Int) < (l.length : Int) := by omega
      have q0 : decide ((k : Int) < (l.length : Int)) = true := decide_eq_true x1
      obtain ⟨s, hs⟩ : ∃ s, l[k] = s := ⟨_, rfl⟩
      have HS := Lib.hid hs
      rw [hs] at a0 a1
      clear hs
      by_cases c0 : s.id < 0
      case pos =>
        have q0 : decide (s.id < 0) = true := decide_eq_true c0
        have HF : Hid (r = false) := Lib.hid (HQ.out.1 <| M.sisTo_no hlt (fun h2 => by have := M.siOk_iff.1 h2.1; rw [HS.out] at this; omega))
        clear c0
        go_wp2_with fail
        refine wp_region_kept wr.heap.size wr (by kernel_rfl) (by kernel_rfl) (Below.refl _ _) ?_
        repeat (go_big_quiet_step (fail))
        refine wpQuiet_nil ?_
        rintro w5 ⟨⟨w5x, hb5⟩, hw5⟩
        dsimp only at hw5
        subst hw5
        go_wp2_with fail
        go_ret
        exact ⟨by rw [HF.out]; rfl, after_ hBr hb5⟩
      have q0 : decide (s.id < 0) = false := decide_eq_false c0
      have C0 := Lib.hid c0
      clear c0
      by_cases c1 : 255 < s.id
      case pos =>
        have q1 : decide (255 < s.id) = true := decide_eq_true c1
        have HF : Hid (r = false) := Lib.hid (HQ.out.1 <| M.sisTo_no hlt (fun h2 => by have := M.siOk_iff.1 h2.1; rw [HS.out] at this; omega))
        clear c1
        go_wp2_with fail
        refine wp_region_kept wr.heap.size wr (by kernel_rfl) (by kernel_rfl) (Below.refl _ _) ?_
        repeat (go_big_quiet_step (fail))
        refine wpQuiet_nil ?_
        rintro w5 ⟨⟨w5x, hb5⟩, hw5⟩
        dsimp only at hw5
        subst hw5
        go_wp2_with fail
        go_ret
        exact ⟨by rw [HF.out]; rfl, after_ hBr hb5⟩
      have q1 : decide (255 < s.id) = false := decide_eq_false c1
      have C1 := Lib.hid c1
      clear c1
      by_cases c2 : s.cp < 1
      case pos =>
        have q2 : decide (s.cp < 1) = true := decide_eq_true c2
        have HF : Hid (r = false) := Lib.hid (HQ.out.1 <| M.sisTo_no hlt (fun h2 => by have := M.siOk_iff.1 h2.1; rw [HS.out] at this; omega))
        clear c2
        go_wp2_with fail
        refine wp_region_kept wr.heap.size wr (by kernel_rfl) (by kernel_rfl) (Below.refl _ _) ?_
        repeat (go_big_quiet_step (fail))
        refine wpQuiet_nil ?_
        rintro w5 ⟨⟨w5x, hb5⟩, hw5⟩
        dsimp only at hw5
        subst hw5
        go_wp2_with fail
        go_ret
        exact ⟨by rw [HF.out]; rfl, after_ hBr hb5⟩
      have q2 : decide (s.cp < 1) = false := decide_eq_false c2
      have C2 := Lib.hid c2
      clear c2
      by_cases c3 : 64 < s.cp
      case pos =>
        have q3 : decide (64 < s.cp) = true := decide_eq_true c3
        have HF : Hid (r = false) := Lib.hid (HQ.out.1 <| M.sisTo_no hlt (fun h2 => by have := M.siOk_iff.1 h2.1; rw [HS.out] at this; omega))
        clear c3
        go_wp2_with fail
        refine wp_region_kept wr.heap.size wr (by kernel_rfl) (by kernel_rfl) (Below.refl _ _) ?_
        repeat (go_big_quiet_step (fail))
        refine wpQuiet_nil ?_
        rintro w5 ⟨⟨w5x, hb5⟩, hw5⟩
        dsimp only at hw5
        subst hw5
        go_wp2_with fail
        go_ret
        exact ⟨by rw [HF.out]; rfl, after_ hBr hb5⟩
      have q3 : decide (64 < s.cp) = false := decide_eq_false c3
      have C3 := Lib.hid c3
      clear c3
      by_cases hk0 : k = 0
      · have HE : Hid (M.sisTo l (k + 1)) := Lib.hid (M.sisTo_yes HN.out hlt (by rw [HS.out]; exact M.siOk_iff.2 ⟨by have := C0.out; omega, by have := C1.out; omega, by have := C2.out; omega, by have := C3.out; omega⟩) (fun h0 => absurd h0 (by omega)))
        have q5 : decide ((0 : Int) < (k : Int)) = false := decide_eq_false (by omega)
        have q6 : decide (0 < k) = false := decide_eq_false (by omega)
        clear HN hk0
        go_wp2_with fail
        refine wp_region_kept wr.heap.size wr (by kernel_rfl) (by kernel_rfl) (Below.refl _ _) ?_
        repeat (go_big_quiet_step (fail))
        refine wpQuiet_nil ?_
        rintro w5 ⟨⟨w5x, hb5⟩, hw5⟩
        dsimp only at hw5
        subst hw5
        go_wp2_with fail
        go_roundw
        case rel => exact ⟨k + 1, hlt, by go_num, after_ hBr hb5, HE⟩
        case measure => simp [intOf]; omega
      obtain ⟨pj, hpj⟩ : ∃ pj, k = pj + 1 := ⟨k - 1, by omega⟩
      have q5 : decide ((0 : Int) < (k : Int)) = true := decide_eq_true (by omega)
      have q6 : decide (0 < k) = true := decide_eq_true (by omega)
      have hwk : IntKind.i64.wrap ((k : Int) - 1) = (pj : Int) := by rw [show (k : Int) - 1 = (pj : Int) by omega, IntWalk.i64_left]; exact IntWalk.wrap64_in _ (by omega)
      obtain ⟨la2, hla2, hlb2, p0, -⟩ := (hL.below hBr).si2 (k := pj) (by omega)
      obtain rfl : la = la2 := Option.some.inj hla2
      clear hla2
      have l2 := Nat.lt_of_lt_of_le hlb2 hBr.size
      have y0 : (0 : Int) ≤ (pj : Int) := by omega
      have y1 : (pj : Int) < (l.length : Int) := by omega
      have hpe : (l[k - 1]'(by omega)) = (l[pj]'(by omega)) := by congr 1; omega
      have HNO2 : Hid (s.id ≤ (l[pj]'(by omega)).id → r = false) := Lib.hid (fun h => HQ.out.1 <| M.sisTo_no hlt (fun h2 => by have := h2.2 (by omega); rw [hpe, HS.out] at this; omega))
      have HYE2 : Hid ((l[pj]'(by omega)).id < s.id → M.sisTo l (k + 1)) := Lib.hid (fun h => M.sisTo_yes HN.out hlt (by rw [HS.out]; exact M.siOk_iff.2 ⟨by have := C0.out; omega, by have := C1.out; omega, by have := C2.out; omega, by have := C3.out; omega⟩) (fun _ => by rw [hpe, HS.out]; exact h))
      clear hpe hk0 HN
      generalize (l[pj]'(by omega)).id = pid at *
      have HPJ := Lib.hid hpj
      clear hpj
      by_cases hc : s.id ≤ pid
      · have q3' : decide (s.id ≤ pid) = true := decide_eq_true hc
        have HF := Lib.hid (HNO2.out hc)
        clear HNO2 HYE2 hc
        go_wp2_with fail
        refine wp_region_kept wr.heap.size wr (by kernel_rfl) (by kernel_rfl) (Below.refl _ _) ?_
        repeat (go_big_quiet_step (fail))
        refine wpQuiet_nil ?_
        rintro w5 ⟨⟨w5x, hb5⟩, hw5⟩
        dsimp only at hw5
        subst hw5
        go_wp2_with fail
        go_ret
        exact ⟨by rw [HF.out]; rfl, after_ hBr hb5⟩
      have q3' : decide (s.id ≤ pid) = false := decide_eq_false hc
      have HE := Lib.hid (HYE2.out (by omega))
      clear HNO2 HYE2 hc
      go_wp2_with fail
      refine wp_region_kept wr.heap.size wr (by kernel_rfl) (by kernel_rfl) (Below.refl _ _) ?_
      repeat (go_big_quiet_step (fail))
      refine wpQuiet_nil ?_
      rintro w5 ⟨⟨w5x, hb5⟩, hw5⟩
      dsimp only at hw5
      subst hw5
      go_wp2_with fail
      go_roundw
      case rel => exact ⟨k + 1, hlt, by go_num, after_ hBr hb5, HE⟩
      case measure => simp [intOf]; omega
    · obtain rfl : k = l.length := by omega
      have HR := Lib.hid (HQ.out.2 (M.sisTo_all.1 HN.out))
      have q0 : decide ((l.length : Int) < (l.length : Int)) = false := decide_eq_false (by omega)
      clear HN
      go_wp2_with fail
      go_ret
      exact ⟨by rw [HR.out]; rfl, hBr⟩
set_option maxHeartbeats 16000000 in
theorem rCapacity_ok (LA : Option Addr) (lc : Nat) (l : List Si) (i : Int) (w : World) (hL : Sl 2 sicell w w.heap.size LA l) (hl : l.length ≤ 9223372036854775806) :
    Calls Tryz.prog 40 #[.slice LA l.length lc, .int .i64 i] w fun e w' => e = .returned (.int .i64 (M.cap l i)) ∧ w = w' := by
  obtain ⟨r, hr⟩ : ∃ r, M.cap l i = r := ⟨_, rfl⟩
  rw [hr]
  have HR := Lib.hid hr
  clear hr
  go_enter Tryz.func40, Tryz.ntmps40
  go_wp2_with fail
  go_loop [5] (fun j => ∃ k : Nat, k ≤ l.length ∧ j = .int .i64 k ∧ Hid (∀ u (hu : u < l.length), u < k → l[u].id ≠ i)) (fun j => l.length - (intOf j).toNat)
  case atStart => exact ⟨0, Nat.zero_le _, rfl, Lib.hid (fun u _ h => absurd h (by omega))⟩
  case round =>
    obtain ⟨k, hk, rfl, HN⟩ := hrel
    by_cases hlt : k < l.length
    · obtain ⟨la, rfl, hlb, a0, a1⟩ := hL.si2 hlt
      have x0 : (0 : Int) ≤ (k : Int) := by omega
      have x1 : (k : Int) < (l.length : Int) := by omega
      have q0 : decide ((k : Int) < (l.length : Int)) = true := decide_eq_true x1
      by_cases he : l[k].id = i
      · have q1 : (l[k].id == i) = true := by simpa using he
        have HV : Hid (l[k].cp = r) := Lib.hid ((M.cap_hit hlt he HN.out).symm.trans HR.out)
        clear he
        generalize l[k] = s at *
        go_wp2_with fail
        go_ret
        exact ⟨by rw [HV.out]; rfl, rfl⟩
      · have q1 : (l[k].id == i) = false := by simpa using he
        have HE : Hid (∀ u (hu : u < l.length), u < k + 1 → l[u].id ≠ i) := Lib.hid (fun u hu hk2 => by
          by_cases e : u = k
          · subst e; exact he
          · exact HN.out u hu (by omega))
        clear he HN
        generalize l[k] = s at *
        go_wp2_with fail
        go_round
        case rel => exact ⟨k + 1, hlt, by go_num, HE⟩
        case measure => simp [intOf]; omega
    · obtain rfl : k = l.length := by omega
      have HV : Hid (0 = r) := Lib.hid ((M.cap_miss (fun u hu => HN.out u hu hu)).symm.trans HR.out)
      have q0 : decide ((l.length : Int) < (l.length : Int)) = false := decide_eq_false (by omega)
      clear HN
      go_wp2_with fail
      go_ret
      exact ⟨by rw [HV.out]; rfl, rfl⟩
end Go.Proofs.YtpkepgcmifdpfaaGreatDoor
end
