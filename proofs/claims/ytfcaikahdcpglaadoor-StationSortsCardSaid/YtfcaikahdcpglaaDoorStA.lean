import Derived.Test.YtfcaikahdcpglaaDoorSt
import Derived.Test.YtfcaikahdcpglaaDoorStep
import Derived.Deep.RegionHeld3
/- Layer 13: Equal and Copy of stations, the program's and the reference's; the reference's Cell. -/
namespace Go.Proofs.YtfcaikahdcpglaaDoor
open Go Go.RowKit
set_option maxRecDepth 100000

set_option maxHeartbeats 8000000 in
theorem sEqual_any (s t : St) (A D : Option Addr) (c d : Nat) (w : World) (hS : Sl 1 icell w w.heap.size A s.pat) (hT : Sl 1 icell w w.heap.size D t.pat) (hl : s.pat.length ≤ 9223372036854775806) :
    Calls Tryd.prog 28 #[stv s A c, stv t D d] w fun e w' => e = .returned (.bool (decide (s = t))) ∧ Below w.heap.size w w' := by
  obtain ⟨V, HW, x0, x1, hB, -⟩ := boxes2 w (stc s A c) 28 (stc t D d) 28
  have hS1 := (hS.below hB).more hB.size
  have hT1 := (hT.below hB).more hB.size
  obtain ⟨id, x, y, pw, h, pat, bd, ch⟩ := s
  obtain ⟨id', x', y', pw', h', pat', bd', ch'⟩ := t
  have HD : Hid (decide ((⟨id, x, y, pw, h, pat, bd, ch⟩ : St) = ⟨id', x', y', pw', h', pat', bd', ch'⟩) = decide (id = id' ∧ x = x' ∧ y = y' ∧ pw = pw' ∧ h = h' ∧ pat = pat' ∧ bd = bd' ∧ ch = ch')) := Lib.hid (by simp only [St.mk.injEq])
  simp only at hS1 hT1 hl
  generalize decide ((⟨id, x, y, pw, h, pat, bd, ch⟩ : St) = ⟨id', x', y', pw', h', pat', bd', ch'⟩) = r at *
  obtain ⟨c0, c1, c2, c3, c4, c5, c6, c7⟩ := x0.c8
  obtain ⟨d0, d1, d2, d3, d4, d5, d6, d7⟩ := x1.c8
  by_cases e_id : ¬ id = id'
  · have q_id : (id != id') = true := by simp [e_id]
    have HF : Hid (false = r) := Lib.hid (by rw [HD.out]; exact (decide_eq_false fun k => e_id (by simp only [k])).symm)
    clear e_id
    go_enter Tryd.func28, Tryd.ntmps28
    go_wp2_with fail
    go_ret
    exact ⟨ret_bool HF.out, by rw [HW.out]; exact hB⟩
  replace e_id : id = id' := by omega
  have q_id : (id != id') = false := by simp [e_id]
  have E_id := Lib.hid e_id
  clear e_id
  by_cases e_x : ¬ x = x'
  · have q_x : (x != x') = true := by simp [e_x]
    have HF : Hid (false = r) := Lib.hid (by rw [HD.out]; exact (decide_eq_false fun k => e_x (by simp only [k])).symm)
    clear e_x
    go_enter Tryd.func28, Tryd.ntmps28
    go_wp2_with fail
    go_ret
    exact ⟨ret_bool HF.out, by rw [HW.out]; exact hB⟩
  replace e_x : x = x' := by omega
  have q_x : (x != x') = false := by simp [e_x]
  have E_x := Lib.hid e_x
  clear e_x
  by_cases e_y : ¬ y = y'
  · have q_y : (y != y') = true := by simp [e_y]
    have HF : Hid (false = r) := Lib.hid (by rw [HD.out]; exact (decide_eq_false fun k => e_y (by simp only [k])).symm)
    clear e_y
    go_enter Tryd.func28, Tryd.ntmps28
    go_wp2_with fail
    go_ret
    exact ⟨ret_bool HF.out, by rw [HW.out]; exact hB⟩
  replace e_y : y = y' := by omega
  have q_y : (y != y') = false := by simp [e_y]
  have E_y := Lib.hid e_y
  clear e_y
  by_cases e_pw : ¬ pw = pw'
  · have q_pw : (pw != pw') = true := by simp [e_pw]
    have HF : Hid (false = r) := Lib.hid (by rw [HD.out]; exact (decide_eq_false fun k => e_pw (by simp only [k])).symm)
    clear e_pw
    go_enter Tryd.func28, Tryd.ntmps28
    go_wp2_with fail
    go_ret
    exact ⟨ret_bool HF.out, by rw [HW.out]; exact hB⟩
  replace e_pw : pw = pw' := by omega
  have q_pw : (pw != pw') = false := by simp [e_pw]
  have E_pw := Lib.hid e_pw
  clear e_pw
  by_cases e_bd : ¬ bd = bd'
  · have q_bd : (bd == bd') = false := by simp [e_bd]
    have HF : Hid (false = r) := Lib.hid (by rw [HD.out]; exact (decide_eq_false fun k => e_bd (by simp only [k])).symm)
    clear e_bd
    go_enter Tryd.func28, Tryd.ntmps28
    go_wp2_with fail
    go_ret
    exact ⟨ret_bool HF.out, by rw [HW.out]; exact hB⟩
  replace e_bd : bd = bd' := by omega
  have q_bd : (bd == bd') = true := by simp [e_bd]
  have E_bd := Lib.hid e_bd
  clear e_bd
  by_cases e_ch : ¬ ch = ch'
  · have q_ch : (ch == ch') = false := by simp [e_ch]
    have HF : Hid (false = r) := Lib.hid (by rw [HD.out]; exact (decide_eq_false fun k => e_ch (by simp only [k])).symm)
    clear e_ch
    go_enter Tryd.func28, Tryd.ntmps28
    go_wp2_with fail
    go_ret
    exact ⟨ret_bool HF.out, by rw [HW.out]; exact hB⟩
  replace e_ch : ch = ch' := by omega
  have q_ch : (ch == ch') = true := by simp [e_ch]
  have E_ch := Lib.hid e_ch
  clear e_ch
  have HF : Hid (decide (h = h' ∧ pat = pat') = r) := Lib.hid (by rw [HD.out]; simp [E_id.out, E_x.out, E_y.out, E_pw.out, E_bd.out, E_ch.out])
  go_enter Tryd.func28, Tryd.ntmps28
  go_wp2_with fail
  rw [HW.out]
  refine (aEqual_any h h' A D c d pat pat' V hS1 hT1 hl).mono ?_
  rintro e w1 ⟨rfl, hb1⟩
  generalize decide (h = h' ∧ pat = pat') = z at *
  go_wp2_with fail
  go_ret
  exact ⟨ret_bool HF.out, after_ hB hb1⟩

set_option maxHeartbeats 8000000 in
theorem rSEqual_any (s t : St) (A D : Option Addr) (c d : Nat) (w : World) (hS : Sl 1 icell w w.heap.size A s.pat) (hT : Sl 1 icell w w.heap.size D t.pat) (hl : s.pat.length ≤ 9223372036854775806) :
    Calls Tryd.prog 19 #[stv s A c, stv t D d] w fun e w' => e = .returned (.bool (decide (s = t))) ∧ Below w.heap.size w w' := by
  obtain ⟨V, HW, x0, x1, hB, -⟩ := boxes2 w (stc s A c) 28 (stc t D d) 28
  have hS1 := (hS.below hB).more hB.size
  have hT1 := (hT.below hB).more hB.size
  obtain ⟨id, x, y, pw, h, pat, bd, ch⟩ := s
  obtain ⟨id', x', y', pw', h', pat', bd', ch'⟩ := t
  have HD : Hid (decide ((⟨id, x, y, pw, h, pat, bd, ch⟩ : St) = ⟨id', x', y', pw', h', pat', bd', ch'⟩) = decide (id = id' ∧ x = x' ∧ y = y' ∧ pw = pw' ∧ h = h' ∧ pat = pat' ∧ bd = bd' ∧ ch = ch')) := Lib.hid (by simp only [St.mk.injEq])
  simp only at hS1 hT1 hl
  generalize decide ((⟨id, x, y, pw, h, pat, bd, ch⟩ : St) = ⟨id', x', y', pw', h', pat', bd', ch'⟩) = r at *
  obtain ⟨c0, c1, c2, c3, c4, c5, c6, c7⟩ := x0.c8
  obtain ⟨d0, d1, d2, d3, d4, d5, d6, d7⟩ := x1.c8
  by_cases e_id : ¬ id = id'
  · have q_id : (id == id') = false := by simp [e_id]
    have HF : Hid (false = r) := Lib.hid (by rw [HD.out]; exact (decide_eq_false fun k => e_id (by simp only [k])).symm)
    clear e_id
    go_enter Tryd.func19, Tryd.ntmps19
    go_wp2_with fail
    go_ret
    exact ⟨ret_bool HF.out, by rw [HW.out]; exact hB⟩
  replace e_id : id = id' := by omega
  have q_id : (id == id') = true := by simp [e_id]
  have E_id := Lib.hid e_id
  clear e_id
  by_cases e_x : ¬ x = x'
  · have q_x : (x == x') = false := by simp [e_x]
    have HF : Hid (false = r) := Lib.hid (by rw [HD.out]; exact (decide_eq_false fun k => e_x (by simp only [k])).symm)
    clear e_x
    go_enter Tryd.func19, Tryd.ntmps19
    go_wp2_with fail
    go_ret
    exact ⟨ret_bool HF.out, by rw [HW.out]; exact hB⟩
  replace e_x : x = x' := by omega
  have q_x : (x == x') = true := by simp [e_x]
  have E_x := Lib.hid e_x
  clear e_x
  by_cases e_y : ¬ y = y'
  · have q_y : (y == y') = false := by simp [e_y]
    have HF : Hid (false = r) := Lib.hid (by rw [HD.out]; exact (decide_eq_false fun k => e_y (by simp only [k])).symm)
    clear e_y
    go_enter Tryd.func19, Tryd.ntmps19
    go_wp2_with fail
    go_ret
    exact ⟨ret_bool HF.out, by rw [HW.out]; exact hB⟩
  replace e_y : y = y' := by omega
  have q_y : (y == y') = true := by simp [e_y]
  have E_y := Lib.hid e_y
  clear e_y
  by_cases e_pw : ¬ pw = pw'
  · have q_pw : (pw == pw') = false := by simp [e_pw]
    have HF : Hid (false = r) := Lib.hid (by rw [HD.out]; exact (decide_eq_false fun k => e_pw (by simp only [k])).symm)
    clear e_pw
    go_enter Tryd.func19, Tryd.ntmps19
    go_wp2_with fail
    go_ret
    exact ⟨ret_bool HF.out, by rw [HW.out]; exact hB⟩
  replace e_pw : pw = pw' := by omega
  have q_pw : (pw == pw') = true := by simp [e_pw]
  have E_pw := Lib.hid e_pw
  clear e_pw
  go_enter Tryd.func19, Tryd.ntmps19
  go_wp2_with fail
  rw [HW.out]
  refine (rAEqual_any h h' A D c d pat pat' V hS1 hT1 hl).mono ?_
  rintro e w1 ⟨rfl, hb1⟩
  have B1 := after_ hB hb1
  clear c0 c1 c2 c3 c4 c5 c6 c7 d0 d1 d2 d3 d4 d5 d6 d7
  obtain ⟨c0, c1, c2, c3, c4, c5, c6, c7⟩ := (x0.below hb1).c8
  obtain ⟨d0, d1, d2, d3, d4, d5, d6, d7⟩ := (x1.below hb1).c8
  by_cases e_a : h = h' ∧ pat = pat'
  · have qa : decide (h = h' ∧ pat = pat') = true := decide_eq_true e_a
    have E_a := Lib.hid e_a
    rw [qa]
    clear e_a qa
    by_cases e_bd : ¬ bd = bd'
    · have q_bd : (bd == bd') = false := by simp [e_bd]
      have HF : Hid (false = r) := Lib.hid (by rw [HD.out]; exact (decide_eq_false fun k => e_bd (by simp only [k])).symm)
      clear e_bd
      go_wp2_with fail
      go_ret
      exact ⟨ret_bool HF.out, B1⟩
    replace e_bd : bd = bd' := by omega
    have q_bd : (bd == bd') = true := by simp [e_bd]
    have E_bd := Lib.hid e_bd
    clear e_bd
    have HF : Hid (decide (ch = ch') = r) := Lib.hid (by rw [HD.out]; simp [E_id.out, E_x.out, E_y.out, E_pw.out, E_a.out.1, E_a.out.2, E_bd.out])
    have q_ch : (ch == ch') = decide (ch = ch') := by rw [Bool.eq_iff_iff]; simp
    have Q := Lib.hid q_ch
    clear q_ch
    go_wp2_with fail
    go_ret
    exact ⟨ret_bool (Q.out.trans HF.out), B1⟩
  · have qa : decide (h = h' ∧ pat = pat') = false := decide_eq_false e_a
    have HF : Hid (false = r) := Lib.hid (by rw [HD.out]; exact (decide_eq_false fun k => e_a ⟨k.2.2.2.2.1, k.2.2.2.2.2.1⟩).symm)
    rw [qa]
    clear e_a qa
    go_wp2_with fail
    go_ret
    exact ⟨ret_bool HF.out, B1⟩

/-- A call that returns a station whose pattern is the call's own. -/
def RetSt (w : World) (s : St) (e : Ending) (w' : World) : Prop :=
  ∃ A c, e = .returned (stv s A c) ∧ w'.ownsRow w.heap.size 3 1 (.slice A s.pat.length c) s.pat.length (flat 1 icell s.pat) ∧ Below w.heap.size w w'

set_option maxHeartbeats 4000000 in
theorem sCopy_ok (s : St) (A : Option Addr) (c : Nat) (w : World) (hS : Sl 1 icell w w.heap.size A s.pat) (hl : s.pat.length ≤ 1000) :
    Calls Tryd.prog 24 #[stv s A c] w (RetSt w s) := by
  obtain ⟨V, HW, x0, x1, hB, hs⟩ := boxes2 w (stc s A c) 28 #[.int .i64 0, .int .i64 0, .int .i64 0, .int .i64 0, .int .i64 0, .slice none 0 0, .int .i64 0, .int .i64 0] 28
  have hS1 := (hS.below hB).more hB.size
  have HS := Lib.hid hs
  clear hs
  obtain ⟨id, x, y, pw, h, pat, bd, ch⟩ := s
  simp only at hS1 hl
  go_enter Tryd.func24, Tryd.ntmps24
  go_wp2_with fail
  rw [HW.out]
  refine (aCopy_ok h A c pat V hS1 hl).mono ?_
  rintro e w1 ⟨A1, c1, rfl, hown, hb1⟩
  have B1 := after_ hB hb1
  have y0 := x0.below hb1
  have y1 := x1.below hb1
  obtain ⟨a0, a1, a2, a3, a4, a5, a6, a7⟩ := y0.c8
  obtain ⟨d0, d1, d2, d3, d4, d5, d6, d7⟩ := y1.c8
  have g4 := y0.frozen 4
  have g5 := y0.frozen 5
  have f0 := y1.frozen 0; have f1 := y1.frozen 1; have f2 := y1.frozen 2; have f3 := y1.frozen 3; have f4 := y1.frozen 4; have f5 := y1.frozen 5; have f6 := y1.frozen 6; have f7 := y1.frozen 7
  go_wp2_with fail
  refine bodyPost_ret (v := stv ⟨id, x, y, pw, h, pat, bd, ch⟩ A1 c1) ?_ rfl ⟨A1, c1, rfl, ?_, ?_⟩
  · simp [results, Tryd.results24, go_sem, d0, d1, d2, d3, d4, d5, d6, d7]
  · rw [HS.out] at hown
    refine own_base (base := w.heap.size + 2) ?_ (by omega)
    iterate 10 refine ownsRow_setCell_below ?_ (by dsimp only; omega) _
    exact hown
  · iterate 10 refine Below.setCell ?_ (by dsimp only; omega) _
    exact B1
end Go.Proofs.YtfcaikahdcpglaaDoor

/- Layer 13: the reference's Copy of stations. -/
namespace Go.Proofs.YtfcaikahdcpglaaDoor
open Go Go.RowKit
set_option maxRecDepth 100000

set_option maxHeartbeats 4000000 in
theorem rSCopy_ok (s : St) (A : Option Addr) (c : Nat) (w : World) (hS : Sl 1 icell w w.heap.size A s.pat) (hl : s.pat.length ≤ 1000) :
    Calls Tryd.prog 16 #[stv s A c] w (RetSt w s) := by
  obtain ⟨V, HW, x0, x1, hB, hs⟩ := boxes2 w (stc s A c) 28 #[.int .i64 0, .int .i64 0, .int .i64 0, .int .i64 0, .int .i64 0, .slice none 0 0, .int .i64 0, .int .i64 0] 28
  have hS1 := (hS.below hB).more hB.size
  have HS := Lib.hid hs
  clear hs
  obtain ⟨id, x, y, pw, h, pat, bd, ch⟩ := s
  simp only at hS1 hl
  have S1 : Sl 1 icell V.drew V.drew.heap.size A pat := hS1.drew
  have X0 : Box V.drew w.heap.size (stc ⟨id, x, y, pw, h, pat, bd, ch⟩ A c) 28 := x0
  have X1 : Box V.drew (w.heap.size + 1) #[.int .i64 0, .int .i64 0, .int .i64 0, .int .i64 0, .int .i64 0, .slice none 0 0, .int .i64 0, .int .i64 0] 28 := x1
  have hne : w.heap.size ≠ w.heap.size + 1 := by omega
  have BV : Below w.heap.size w V.drew := hB.drew
  go_enter Tryd.func16, Tryd.ntmps16
  go_wp2_with fail
  rw [HW.out]
  go_region_held3 (fun w' => w'.cell? ⟨w.heap.size, 0, none⟩ = some (.int .i64 id) ∧ w'.cell? ⟨w.heap.size, 1, none⟩ = some (.int .i64 x) ∧ w'.cell? ⟨w.heap.size, 2, none⟩ = some (.int .i64 y) ∧ w'.cell? ⟨w.heap.size, 3, none⟩ = some (.int .i64 pw) ∧ w'.cell? ⟨w.heap.size, 4, none⟩ = some (.int .i64 h) ∧ w'.cell? ⟨w.heap.size, 5, none⟩ = some (.slice A pat.length c) ∧ w'.cell? ⟨w.heap.size, 6, none⟩ = some (.int .i64 bd) ∧ w'.cell? ⟨w.heap.size, 7, none⟩ = some (.int .i64 ch)) (first | with_reducible exact X0.c8 | with_reducible exact x0.c8 | with_reducible exact (X0.below hb1).c8 | exact (((((((((X0.below hb1).set_other (p := ⟨w.heap.size + 1, 0, none⟩) hne _).set_other (p := ⟨w.heap.size + 1, 1, none⟩) hne _).set_other (p := ⟨w.heap.size + 1, 2, none⟩) hne _).set_other (p := ⟨w.heap.size + 1, 3, none⟩) hne _).set_other (p := ⟨w.heap.size + 1, 4, none⟩) hne _).set_other (p := ⟨w.heap.size + 1, 5, none⟩) hne _).set_other (p := ⟨w.heap.size + 1, 6, none⟩) hne _).set_other (p := ⟨w.heap.size + 1, 7, none⟩) hne _).c8) ((go_at_call 38; ((with_reducible refine (rACopy_ok h A c pat _ S1 hl).mono ?_); rintro e w1 ⟨A1, c1, rfl, hown, hb1⟩; have y1 := X1.below hb1; obtain ⟨d0, d1, d2, d3, d4, d5, d6, d7⟩ := y1.c8; have f0 := y1.frozen 0; have f1 := y1.frozen 1; have f2 := y1.frozen 2; have f3 := y1.frozen 3; have f4 := y1.frozen 4; have f5 := y1.frozen 5; have f6 := y1.frozen 6; have f7 := y1.frozen 7)))
  all_goals
    go_wp2_with fail
    refine bodyPost_ret (v := stv ⟨id, x, y, pw, h, pat, bd, ch⟩ A1 c1) ?_ rfl ⟨A1, c1, rfl, ?_, ?_⟩
    · simp [results, Tryd.results16, go_sem, d0, d1, d2, d3, d4, d5, d6, d7]
    · have hown2 : w1.ownsRow (w.heap.size + 2) 3 1 (.slice A1 pat.length c1) pat.length (flat 1 icell pat) := by rw [← HS.out]; exact hown
      refine own_base (base := w.heap.size + 2) ?_ (by omega)
      iterate 8 refine ownsRow_setCell_below ?_ (by dsimp only; omega) _
      exact hown2
    · iterate 8 refine Below.setCell ?_ (by dsimp only; omega) _
      exact after_ BV hb1

set_option maxHeartbeats 1000000 in
theorem rCell_any (s : St) (A : Option Addr) (c : Nat) (w : World) : Calls Tryd.prog 23 #[stv s A c] w fun e w' => e = .returned (cv s.x s.y) ∧ Below w.heap.size w w' := by
  obtain ⟨id, x, y, pw, h, pat, bd, ch⟩ := s
  go_enter Tryd.func23, Tryd.ntmps23
  go_wp2_with fail
  exact bodyPost_ret (v := cv x y) (by simp [results, Tryd.results23, go_sem]) rfl ⟨rfl, ((Below.refl w.heap.size w).alloc (Nat.le_refl _) _).alloc (by simp) _⟩
end Go.Proofs.YtfcaikahdcpglaaDoor

/- Layer 13: Field; the reference's Field and Allowed. -/
namespace Go.Proofs.YtfcaikahdcpglaaDoor
open Go Go.RowKit
set_option maxRecDepth 100000

def M.okF (W H : Int) (G P : List Int) (s : St) (cx cy : Int) : Bool := M.svalid s && M.okObs W H G P s.x s.y s.h cx cy 10
def M.field (W : Int) (G : List Int) (s : St) (cx cy : Int) : Int := s.pw - M.aloss s.pat (cx - s.x) (cy - s.y) - M.tot W G s.x s.y s.h cx cy 10
theorem M.tot_bd {W H : Int} {G P : List Int} {ax ay f bx by' t : Int} (hok : M.okObs W H G P ax ay f bx by' t = true) : 0 ≤ M.tot W G ax ay f bx by' t ∧ M.tot W G ax ay f bx by' t ≤ 600 := by
  obtain ⟨-, -, hv, hia, hib⟩ := M.okObs_iff.1 hok
  obtain ⟨t1, t2, -⟩ := M.tvalid_iff.1 hv
  obtain ⟨a1, a2⟩ := M.c63_of t1 t2 hia
  obtain ⟨b1, b2⟩ := M.c63_of t1 t2 hib
  have := M.sq_bd a1 a2 b1 b2
  have := M.free_bd (n := (M.sq ax ay bx by').toNat) (by omega)
  unfold M.tot
  omega
theorem M.okF_dx {W H : Int} {G P : List Int} {s : St} {cx cy : Int} (h : M.okObs W H G P s.x s.y s.h cx cy 10 = true) : (-100 ≤ cx - s.x ∧ cx - s.x ≤ 100) ∧ (-100 ≤ cy - s.y ∧ cy - s.y ≤ 100) := by
  obtain ⟨-, -, hv, hia, hib⟩ := M.okObs_iff.1 h
  obtain ⟨t1, t2, -⟩ := M.tvalid_iff.1 hv
  obtain ⟨a1, a2⟩ := M.c63_of t1 t2 hia
  obtain ⟨b1, b2⟩ := M.c63_of t1 t2 hib
  unfold M.c63 at *
  omega

set_option maxHeartbeats 8000000 in
theorem field_ok (W H : Int) (GA PA : Option Addr) (gc pc : Nat) (G P : List Int) (s : St) (A : Option Addr) (c : Nat) (cx cy : Int) (w : World) (ht : Tab w) (hg : Sl 1 icell w w.heap.size GA G) (hp : Sl 1 icell w w.heap.size PA P) (hS : Sl 1 icell w w.heap.size A s.pat)
    (hok : M.okF W H G P s cx cy = true) : Calls Tryd.prog 10 #[tv W H GA PA G.length gc P.length pc, stv s A c, cv cx cy] w fun e w' => e = .returned (.tuple #[.int .i64 (M.field W G s cx cy), .int .i64 0]) ∧ Below w.heap.size w w' := by
  obtain ⟨V, HW, x0, x1, x2, hB, -⟩ := boxes3 w #[.int .i64 W, .int .i64 H, .slice GA G.length gc, .slice PA P.length pc] 24 (stc s A c) 28 #[.int .i64 cx, .int .i64 cy] 30
  have hg1 := (hg.below hB).more hB.size
  have hp1 := (hp.below hB).more hB.size
  have hS1 := (hS.below hB).more hB.size
  unfold M.okF at hok
  rw [Bool.and_eq_true] at hok
  obtain ⟨hv, hok⟩ := hok
  have HV := Lib.hid hv
  have HO := Lib.hid hok
  obtain ⟨-, h2, h3, h4, -, -, hav⟩ := M.svalid_iff.1 hv
  have HAV := Lib.hid hav
  have hal := (M.avalid_iff.1 hav).2.1
  have halb := M.aloss_bd (M.avalid_iff.1 hav).2.2 (cx - s.x) (cy - s.y)
  have htb := M.tot_bd hok
  obtain ⟨dx1, dx2⟩ := M.okF_dx hok
  have hl : s.pat.length ≤ 16 := by omega
  have HF : Hid (M.field W G s cx cy = s.pw - M.aloss s.pat (cx - s.x) (cy - s.y) - M.tot W G s.x s.y s.h cx cy 10) := Lib.hid rfl
  clear hv hok hav hal
  go_enter Tryd.func10, Tryd.ntmps10
  go_wp2_with fail
  rw [HW.out]
  refine (sValid_any s A c V hS1 (by omega)).mono ?_
  rintro e w1 ⟨rfl, hb1⟩
  rw [HV.out]
  have B1 := after_ hB hb1
  have y0 := x0.below hb1
  have y1 := x1.below hb1
  have y2 := x2.below hb1
  have hg2 := (hg1.below hb1).more hb1.size
  have hp2 := (hp1.below hb1).more hb1.size
  have hS2 := (hS1.below hb1).more hb1.size
  obtain ⟨U, HU, u0, hBU, -⟩ := boxes1 w1 #[.int .i64 s.x, .int .i64 s.y] 30
  have BU := after_ B1 hBU
  have z0 := y0.below hBU
  have z1 := y1.below hBU
  have z2 := y2.below hBU
  have hg3 := (hg2.below hBU).more hBU.size
  have hp3 := (hp2.below hBU).more hBU.size
  have hS3 := (hS2.below hBU).more hBU.size
  obtain ⟨a0, a1, a2, a3, a4, a5, a6, a7⟩ := y1.c8
  obtain ⟨c0, c1, c2, c3⟩ := z0.c4
  obtain ⟨b0, b1, b2, b3, b4, b5, b6, b7⟩ := z1.c8
  obtain ⟨d0, d1⟩ := z2.c2
  obtain ⟨e0, e1⟩ := u0.c2
  have hU := HU.out
  clear x0 x1 x2 hg1 hp1 hS1
  go_wp2_with fail
  clear hU
  refine (total_ok W H GA PA gc pc G P s.x s.y s.h cx cy 10 U hg3 hp3 HO.out).mono ?_
  rintro e w2 ⟨rfl, hb2⟩
  have B2 := after_ BU hb2
  clear a0 a1 a2 a3 a4 a5 a6 a7 b0 b1 b2 b3 b4 b5 b6 b7 c0 c1 c2 c3 d0 d1 e0 e1
  obtain ⟨b0, b1, b2, b3, b4, b5, b6, b7⟩ := (z1.below hb2).c8
  obtain ⟨d0, d1⟩ := (z2.below hb2).c2
  have hS4 := (hS3.below hb2).more hb2.size
  go_wp2_with fail
  refine (aLoss_ok s.h A c s.pat (cx - s.x) (cy - s.y) w2 (ht.kept B2) hS4 HAV.out dx1 dx2).mono ?_
  rintro e w3 ⟨rfl, hb3⟩
  have B3 := after_ B2 hb3
  clear b0 b1 b2 b3 b4 b5 b6 b7 d0 d1
  obtain ⟨b0, b1, b2, b3, b4, b5, b6, b7⟩ := ((z1.below hb2).below hb3).c8
  generalize M.aloss s.pat (cx - s.x) (cy - s.y) = al at *
  generalize M.tot W G s.x s.y s.h cx cy 10 = to at *
  go_wp2_with fail
  go_ret2
  exact ⟨ret_int2 HF.out.symm rfl, B3⟩

set_option maxHeartbeats 8000000 in
theorem field_no (W H : Int) (GA PA : Option Addr) (gc pc : Nat) (G P : List Int) (s : St) (A : Option Addr) (c : Nat) (cx cy : Int) (w : World) (hg : Sl 1 icell w w.heap.size GA G) (hp : Sl 1 icell w w.heap.size PA P) (hS : Sl 1 icell w w.heap.size A s.pat)
    (hgl : G.length ≤ 9223372036854775806) (hpl : P.length ≤ 9223372036854775806) (hl : s.pat.length ≤ 9223372036854775806)
    (hok : M.okF W H G P s cx cy = false) : Calls Tryd.prog 10 #[tv W H GA PA G.length gc P.length pc, stv s A c, cv cx cy] w fun e w' => e = .returned (.tuple #[.int .i64 0, .int .i64 2]) ∧ Below w.heap.size w w' := by
  obtain ⟨V, HW, x0, x1, x2, hB, -⟩ := boxes3 w #[.int .i64 W, .int .i64 H, .slice GA G.length gc, .slice PA P.length pc] 24 (stc s A c) 28 #[.int .i64 cx, .int .i64 cy] 30
  have hg1 := (hg.below hB).more hB.size
  have hp1 := (hp.below hB).more hB.size
  have hS1 := (hS.below hB).more hB.size
  unfold M.okF at hok
  have HK := Lib.hid hok
  clear hok
  go_enter Tryd.func10, Tryd.ntmps10
  go_wp2_with fail
  rw [HW.out]
  refine (sValid_any s A c V hS1 hl).mono ?_
  rintro e w1 ⟨rfl, hb1⟩
  have B1 := after_ hB hb1
  cases hv : M.svalid s with
  | false =>
    go_wp2_with fail
    go_ret2
    exact ⟨rfl, B1⟩
  | true =>
    have HO : Hid (M.okObs W H G P s.x s.y s.h cx cy 10 = false) := Lib.hid (by have := HK.out; rw [hv, Bool.true_and] at this; exact this)
    have y0 := x0.below hb1
    have y1 := x1.below hb1
    have y2 := x2.below hb1
    have hg2 := (hg1.below hb1).more hb1.size
    have hp2 := (hp1.below hb1).more hb1.size
    obtain ⟨U, HU, u0, hBU, -⟩ := boxes1 w1 #[.int .i64 s.x, .int .i64 s.y] 30
    have BU := after_ B1 hBU
    have z0 := y0.below hBU
    have z1 := y1.below hBU
    have z2 := y2.below hBU
    have hg3 := (hg2.below hBU).more hBU.size
    have hp3 := (hp2.below hBU).more hBU.size
    obtain ⟨a0, a1, a2, a3, a4, a5, a6, a7⟩ := y1.c8
    obtain ⟨c0, c1, c2, c3⟩ := z0.c4
    obtain ⟨b0, b1, b2, b3, b4, b5, b6, b7⟩ := z1.c8
    obtain ⟨d0, d1⟩ := z2.c2
    obtain ⟨e0, e1⟩ := u0.c2
    have hU := HU.out
    clear x0 x1 x2 hg1 hp1 hS1
    go_wp2_with fail
    clear hU
    refine (total_no W H GA PA gc pc G P s.x s.y s.h cx cy 10 U hg3 hp3 hgl hpl HO.out).mono ?_
    rintro e w2 ⟨rfl, hb2⟩
    go_wp2_with fail
    go_ret2
    exact ⟨rfl, after_ BU hb2⟩
end Go.Proofs.YtfcaikahdcpglaaDoor

/- Layer 13: the reference's Field and Allowed. -/
namespace Go.Proofs.YtfcaikahdcpglaaDoor
open Go Go.RowKit
set_option maxRecDepth 100000

set_option maxHeartbeats 8000000 in
theorem rField_ok (W H : Int) (GA PA : Option Addr) (gc pc : Nat) (G P : List Int) (s : St) (A : Option Addr) (c : Nat) (cx cy : Int) (w : World) (hg : Sl 1 icell w w.heap.size GA G) (hS : Sl 1 icell w w.heap.size A s.pat)
    (hok : M.okF W H G P s cx cy = true) : Calls Tryd.prog 12 #[tv W H GA PA G.length gc P.length pc, stv s A c, cv cx cy] w fun e w' => e = .returned (.int .i64 (M.field W G s cx cy)) ∧ Below w.heap.size w w' := by
  obtain ⟨V, HW, x0, x1, x2, hB, -⟩ := boxes3 w #[.int .i64 W, .int .i64 H, .slice GA G.length gc, .slice PA P.length pc] 24 (stc s A c) 28 #[.int .i64 cx, .int .i64 cy] 30
  have hg1 := (hg.below hB).more hB.size
  have hS1 := (hS.below hB).more hB.size
  unfold M.okF at hok
  rw [Bool.and_eq_true] at hok
  obtain ⟨hv, hok⟩ := hok
  have HO := Lib.hid hok
  obtain ⟨-, h2, h3, h4, -, -, hav⟩ := M.svalid_iff.1 hv
  have HAV := Lib.hid hav
  have halb := M.aloss_bd (M.avalid_iff.1 hav).2.2 (cx - s.x) (cy - s.y)
  have htb := M.tot_bd hok
  obtain ⟨dx1, dx2⟩ := M.okF_dx hok
  have HF : Hid (M.field W G s cx cy = s.pw - M.aloss s.pat (cx - s.x) (cy - s.y) - M.tot W G s.x s.y s.h cx cy 10) := Lib.hid rfl
  clear hv hok hav
  obtain ⟨c0, c1, c2, c3⟩ := x0.c4
  obtain ⟨b0, b1, b2, b3, b4, b5, b6, b7⟩ := x1.c8
  obtain ⟨d0, d1⟩ := x2.c2
  have l0 := x0.lt
  have l1 := x1.lt
  have l2 := x2.lt
  have kA : Hid (∀ w1, Sl 1 icell w1 w1.heap.size A s.pat → Calls Tryd.prog 34 #[av s.h A s.pat.length c, .int .i64 (cx - s.x), .int .i64 (cy - s.y)] w1 fun e w' => e = .returned (.int .i64 (M.aloss s.pat (cx - s.x) (cy - s.y))) ∧ Below w1.heap.size w1 w') := Lib.hid (fun w1 hh => rALoss_ok s.h A c s.pat (cx - s.x) (cy - s.y) w1 hh HAV.out dx1 dx2)
  have kT : Hid (∀ w1, Sl 1 icell w1 w1.heap.size GA G → Calls Tryd.prog 35 #[tv W H GA PA G.length gc P.length pc, cv s.x s.y, .int .i64 s.h, cv cx cy, .int .i64 10] w1 fun e w' => e = .returned (.int .i64 (M.tot W G s.x s.y s.h cx cy 10)) ∧ Below w1.heap.size w1 w') := Lib.hid (fun w1 hh => rTotal_ok W H GA PA gc pc G P s.x s.y s.h cx cy 10 w1 hh HO.out)
  go_enter Tryd.func12, Tryd.ntmps12
  go_wp2_with fail
  rw [HW.out]
  refine wp_region_kept V.heap.size V (by kernel_rfl) (by kernel_rfl) (Below.refl _ _) ?_
  repeat (go_big_quiet_step ((first | (go_at_call 34; exact Kept.calls (Nat.le_refl _) (kA.out _ hS1.kept)) | (go_at_call 23; exact Kept.calls (Nat.le_refl _) (rCell_any s A c _)) | (go_at_call 35; exact Kept.calls (Nat.le_refl _) (kT.out _ hg1.kept)))))
  refine wpQuiet_nil ?_
  rintro w1 ⟨⟨_, hb1⟩, rfl⟩
  go_wp2_with fail
  go_ret
  exact ⟨ret_int HF.out.symm, after_ hB hb1⟩

theorem M.okF_eq {W H : Int} {G P : List Int} {s : St} {cx cy : Int} : M.okF W H G P s cx cy = (M.svalid s && M.has W H G P s.x s.y && M.has W H G P cx cy) := by
  rw [Bool.eq_iff_iff]
  unfold M.okF M.has
  simp only [Bool.and_eq_true]
  constructor
  · rintro ⟨hv, ho⟩
    obtain ⟨_, _, a, b, c⟩ := M.okObs_iff.1 ho
    exact ⟨⟨hv, a, b⟩, a, c⟩
  · rintro ⟨⟨hv, a, b⟩, _, c⟩
    have := (M.avalid_iff.1 (M.svalid_iff.1 hv).2.2.2.2.2.2).1
    exact ⟨hv, M.okObs_iff.2 ⟨by omega, by omega, a, b, c⟩⟩

set_option maxHeartbeats 8000000 in
theorem rAllowed_any (W H : Int) (GA PA : Option Addr) (gc pc : Nat) (G P : List Int) (s : St) (A : Option Addr) (c : Nat) (cx cy : Int) (w : World) (hg : Sl 1 icell w w.heap.size GA G) (hp : Sl 1 icell w w.heap.size PA P) (hS : Sl 1 icell w w.heap.size A s.pat)
    (hgl : G.length ≤ 9223372036854775806) (hl : s.pat.length ≤ 9223372036854775806) :
    Calls Tryd.prog 11 #[tv W H GA PA G.length gc P.length pc, stv s A c, cv cx cy] w fun e w' => e = .returned (.bool (M.okF W H G P s cx cy)) ∧ Below w.heap.size w w' := by
  obtain ⟨V, HW, x0, x1, x2, hB, -⟩ := boxes3 w #[.int .i64 W, .int .i64 H, .slice GA G.length gc, .slice PA P.length pc] 24 (stc s A c) 28 #[.int .i64 cx, .int .i64 cy] 30
  have hg1 := (hg.below hB).more hB.size
  have hp1 := (hp.below hB).more hB.size
  have hS1 := (hS.below hB).more hB.size
  obtain ⟨c0, c1, c2, c3⟩ := x0.c4
  obtain ⟨b0, b1, b2, b3, b4, b5, b6, b7⟩ := x1.c8
  obtain ⟨d0, d1⟩ := x2.c2
  have l0 := x0.lt
  have l1 := x1.lt
  have l2 := x2.lt
  obtain ⟨p, hp'⟩ : ∃ p, M.svalid s = p := ⟨_, rfl⟩
  obtain ⟨q, hq'⟩ : ∃ q, M.has W H G P s.x s.y = q := ⟨_, rfl⟩
  obtain ⟨r, hr'⟩ : ∃ r, M.has W H G P cx cy = r := ⟨_, rfl⟩
  rw [M.okF_eq, hp', hq', hr']
  have kV : Hid (∀ w1, Sl 1 icell w1 w1.heap.size A s.pat → Calls Tryd.prog 17 #[stv s A c] w1 fun e w' => e = .returned (.bool p) ∧ Below w1.heap.size w1 w') := Lib.hid (fun w1 hh => by rw [← hp']; exact rSValid_any s A c w1 hh hl)
  have kH : Hid (∀ w1, Sl 1 icell w1 w1.heap.size GA G → Sl 1 icell w1 w1.heap.size PA P → Calls Tryd.prog 14 #[tv W H GA PA G.length gc P.length pc, cv s.x s.y] w1 fun e w' => e = .returned (.bool q) ∧ Below w1.heap.size w1 w') := Lib.hid (fun w1 hh hk => by rw [← hq']; exact rHas_any W H GA PA gc pc G P s.x s.y w1 hh hk hgl)
  have kC : Hid (∀ w1, Sl 1 icell w1 w1.heap.size GA G → Sl 1 icell w1 w1.heap.size PA P → Calls Tryd.prog 14 #[tv W H GA PA G.length gc P.length pc, cv cx cy] w1 fun e w' => e = .returned (.bool r) ∧ Below w1.heap.size w1 w') := Lib.hid (fun w1 hh hk => by rw [← hr']; exact rHas_any W H GA PA gc pc G P cx cy w1 hh hk hgl)
  clear hp' hq' hr'
  cases p <;> cases q <;> cases r
  all_goals
    go_enter Tryd.func11, Tryd.ntmps11
    go_wp2_with fail
    rw [HW.out]
    refine wp_region_kept V.heap.size V (by kernel_rfl) (by kernel_rfl) (Below.refl _ _) ?_
    repeat (go_big_quiet_step ((first | (go_at_call 17; exact Kept.calls (Nat.le_refl _) (kV.out _ hS1.kept)) | (go_at_call 23; exact Kept.calls (Nat.le_refl _) (rCell_any s A c _)) | (go_at_call 14; with_reducible exact Kept.calls (Nat.le_refl _) (kH.out _ hg1.kept hp1.kept)) | (go_at_call 14; with_reducible exact Kept.calls (Nat.le_refl _) (kC.out _ hg1.kept hp1.kept)))))
    refine wpQuiet_nil ?_
    rintro w1 ⟨⟨_, hb1⟩, rfl⟩
    go_wp2_with fail
    go_ret
    exact ⟨rfl, after_ hB hb1⟩
end Go.Proofs.YtfcaikahdcpglaaDoor
