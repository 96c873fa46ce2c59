/- A bundle of texts: AntA, RDir. -/
import Derived.Test.YtihepapjopcagaaGreatDoorB09
section
/- Layer 12: Valid, Loss, Equal, Copy of antennas, and the reference's. -/
namespace Go.Proofs.YtihepapjopcagaaGreatDoor
open Go Go.RowKit
set_option maxRecDepth 100000

theorem M.avalid_at {h : Int} {pat : List Int} {k : Nat} (hk : k < pat.length) (hn : ¬ (0 ≤ pat[k] ∧ pat[k] ≤ 80)) : M.avalid h pat = false := by
  cases hv : M.avalid h pat with
  | false => rfl
  | true => exact absurd ((M.avalid_iff.1 hv).2.2 _ (List.getElem_mem hk)) hn
theorem M.avalid_all {h : Int} {pat : List Int} (h1 : 1 ≤ h ∧ h ≤ 500) (h2 : pat.length = 16) (h3 : ∀ k (hk : k < pat.length), 0 ≤ pat[k] ∧ pat[k] ≤ 80) : M.avalid h pat = true := by
  refine M.avalid_iff.2 ⟨h1, h2, fun g hg => ?_⟩
  obtain ⟨i, hi, rfl⟩ := List.getElem_of_mem hg
  exact h3 i hi
theorem M.avalid_no {h : Int} {pat : List Int} (hn : ¬ ((1 ≤ h ∧ h ≤ 500) ∧ pat.length = 16)) : M.avalid h pat = false := by
  cases hv : M.avalid h pat with
  | false => rfl
  | true => obtain ⟨a, b, _⟩ := M.avalid_iff.1 hv; exact absurd ⟨a, b⟩ hn

set_option maxHeartbeats 4000000 in
theorem aValid_any (h : Int) (A : Option Addr) (c : Nat) (pat : List Int) (w : World) (hS : Sl 1 icell w w.heap.size A pat) (hl : pat.length ≤ 9223372036854775806) :
    Calls Tryz.prog 80 #[av h A pat.length c] w fun e w' => e = .returned (.bool (M.avalid h pat)) ∧ Below w.heap.size w w' := by
  obtain ⟨V, HW, x0, hB, -⟩ := boxes1 w #[.int .i64 h, .slice A pat.length c] 32
  have hS1 := (hS.below hB).more hB.size
  by_cases hr : (1 ≤ h ∧ h ≤ 500) ∧ pat.length = 16
  · obtain ⟨a1, a2⟩ := hr
    have q1 : decide (h < 1) = false := by simp; omega
    have q2 : decide (500 < h) = false := by simp; omega
    have q3 : ((pat.length : Int) != 16) = false := by rw [a2]; rfl
    have HL := Lib.hid a2
    have hl16 : pat.length ≤ 16 := by omega
    clear a2
    obtain ⟨c0, c1⟩ := x0.c2
    go_enter Tryz.func80, Tryz.ntmps80
    go_wp2_with fail
    rw [HW.out]
    go_loop [4, 22] (fun _ i => ∃ k : Nat, k ≤ pat.length ∧ i = .int .i64 k ∧ Hid (∀ j (hj : j < pat.length), j < k → 0 ≤ pat[j] ∧ pat[j] ≤ 80)) (fun _ i => pat.length - (intOf i).toNat)
    case atStart => exact ⟨0, Nat.zero_le _, rfl, Lib.hid (fun j _ h => absurd h (by omega))⟩
    case round =>
      clear q1 q2 q3
      obtain ⟨k, hk, rfl, HK⟩ := hrel
      by_cases hlt : k < pat.length
      · have hk16 : k < 16 := by have := HL.out; omega
        obtain ⟨ga, rfl, hgb, e0⟩ := hS1.int_at hlt
        have HA : Hid (¬ (0 ≤ pat[k] ∧ pat[k] ≤ 80) → false = M.avalid h pat) := Lib.hid (fun h => (M.avalid_at hlt h).symm)
        have HK2 : Hid (0 ≤ pat[k] ∧ pat[k] ≤ 80 → ∀ j (hj : j < pat.length), j < k + 1 → 0 ≤ pat[j] ∧ pat[j] ≤ 80) := Lib.hid (fun h j h1 h3 => by
          by_cases e : j = k
          · subst e; exact h
          · exact HK.out j h1 (by omega))
        generalize pat[k] = g at *
        by_cases b1 : g < 0
        · have b1' : decide (g < 0) = true := decide_eq_true b1
          go_wp2_with fail
          go_ret
          exact ⟨ret_bool (HA.out (by omega)), hB⟩
        · have b1' : decide (g < 0) = false := decide_eq_false b1
          by_cases b2 : 80 < g
          · have b2' : decide (80 < g) = true := decide_eq_true b2
            go_wp2_with fail
            go_ret
            exact ⟨ret_bool (HA.out (by omega)), hB⟩
          · have b2' : decide (80 < g) = false := decide_eq_false b2
            have hok : 0 ≤ g ∧ g ≤ 80 := by omega
            clear b1 b2
            go_wp2_with fail
            go_round
            case rel => exact ⟨k + 1, hlt, by go_num, Lib.hid (HK2.out hok)⟩
            case measure => simp [intOf]; omega
      · have hkl : k = pat.length := by omega
        have HF : Hid (true = M.avalid h pat) := Lib.hid (M.avalid_all a1 HL.out (fun j hj => HK.out j hj (by omega))).symm
        have hk16 : (16 : Int) ≤ (k : Int) := by have := HL.out; omega
        have hk17 : ¬ k < 16 := by omega
        clear hkl
        go_wp2_with fail
        go_ret
        exact ⟨ret_bool HF.out, hB⟩
  · have HF : Hid (false = M.avalid h pat) := Lib.hid (M.avalid_no hr).symm
    by_cases b1 : h < 1
    · have q1 : decide (h < 1) = true := decide_eq_true b1
      clear hr
      go_enter Tryz.func80, Tryz.ntmps80
      go_wp2_with fail
      go_ret
      exact ⟨ret_bool HF.out, by rw [HW.out]; exact hB⟩
    · have q1 : decide (h < 1) = false := decide_eq_false b1
      by_cases b2 : 500 < h
      · have q2 : decide (500 < h) = true := decide_eq_true b2
        clear hr
        go_enter Tryz.func80, Tryz.ntmps80
        go_wp2_with fail
        go_ret
        exact ⟨ret_bool HF.out, by rw [HW.out]; exact hB⟩
      · have q2 : decide (500 < h) = false := decide_eq_false b2
        have q3 : ((pat.length : Int) != 16) = true := by
          rw [bne_iff_ne]; intro e; exact hr ⟨by omega, by omega⟩
        clear hr
        go_enter Tryz.func80, Tryz.ntmps80
        go_wp2_with fail
        go_ret
        exact ⟨ret_bool HF.out, by rw [HW.out]; exact hB⟩


set_option maxHeartbeats 4000000 in
theorem rAValid_any (h : Int) (A : Option Addr) (c : Nat) (pat : List Int) (w : World) (hS : Sl 1 icell w w.heap.size A pat) (hl : pat.length ≤ 9223372036854775806) :
    Calls Tryz.prog 66 #[av h A pat.length c] w fun e w' => e = .returned (.bool (M.avalid h pat)) ∧ Below w.heap.size w w' := by
  obtain ⟨V, HW, x0, hB, -⟩ := boxes1 w #[.int .i64 h, .slice A pat.length c] 32
  have hS1 := (hS.below hB).more hB.size
  by_cases hr : (1 ≤ h ∧ h ≤ 500) ∧ pat.length = 16
  · obtain ⟨a1, a2⟩ := hr
    have q1 : decide (h < 1) = false := by simp; omega
    have q2 : decide (500 < h) = false := by simp; omega
    have q3 : ((pat.length : Int) != 16) = false := by rw [a2]; rfl
    have HL := Lib.hid a2
    have hl16 : pat.length ≤ 16 := by omega
    clear a2
    obtain ⟨c0, c1⟩ := x0.c2
    go_enter Tryz.func66, Tryz.ntmps66
    go_wp2_with fail
    rw [HW.out]
    go_loop [3] (fun i => ∃ k : Nat, k ≤ pat.length ∧ i = .int .i64 k ∧ Hid (∀ j (hj : j < pat.length), j < k → 0 ≤ pat[j] ∧ pat[j] ≤ 80)) (fun i => pat.length - (intOf i).toNat)
    case atStart => exact ⟨0, Nat.zero_le _, rfl, Lib.hid (fun j _ h => absurd h (by omega))⟩
    case round =>
      clear q1 q2 q3
      obtain ⟨k, hk, rfl, HK⟩ := hrel
      by_cases hlt : k < pat.length
      · have hk16 : k < 16 := by have := HL.out; omega
        obtain ⟨ga, rfl, hgb, e0⟩ := hS1.int_at hlt
        have HA : Hid (¬ (0 ≤ pat[k] ∧ pat[k] ≤ 80) → false = M.avalid h pat) := Lib.hid (fun h => (M.avalid_at hlt h).symm)
        have HK2 : Hid (0 ≤ pat[k] ∧ pat[k] ≤ 80 → ∀ j (hj : j < pat.length), j < k + 1 → 0 ≤ pat[j] ∧ pat[j] ≤ 80) := Lib.hid (fun h j h1 h3 => by
          by_cases e : j = k
          · subst e; exact h
          · exact HK.out j h1 (by omega))
        generalize pat[k] = g at *
        by_cases b1 : g < 0
        · have b1' : decide (g < 0) = true := decide_eq_true b1
          go_wp2_with fail
          go_ret
          exact ⟨ret_bool (HA.out (by omega)), hB⟩
        · have b1' : decide (g < 0) = false := decide_eq_false b1
          by_cases b2 : 80 < g
          · have b2' : decide (80 < g) = true := decide_eq_true b2
            go_wp2_with fail
            go_ret
            exact ⟨ret_bool (HA.out (by omega)), hB⟩
          · have b2' : decide (80 < g) = false := decide_eq_false b2
            have hok : 0 ≤ g ∧ g ≤ 80 := by omega
            clear b1 b2
            go_wp2_with fail
            go_round
            case rel => exact ⟨k + 1, hlt, by go_num, Lib.hid (HK2.out hok)⟩
            case measure => simp [intOf]; omega
      · have hkl : k = pat.length := by omega
        have HF : Hid (true = M.avalid h pat) := Lib.hid (M.avalid_all a1 HL.out (fun j hj => HK.out j hj (by omega))).symm
        have hk16 : (16 : Int) ≤ (k : Int) := by have := HL.out; omega
        have hk17 : ¬ k < 16 := by omega
        clear hkl
        go_wp2_with fail
        go_ret
        exact ⟨ret_bool HF.out, hB⟩
  · have HF : Hid (false = M.avalid h pat) := Lib.hid (M.avalid_no hr).symm
    by_cases b1 : h < 1
    · have q1 : decide (h < 1) = true := decide_eq_true b1
      clear hr
      go_enter Tryz.func66, Tryz.ntmps66
      go_wp2_with fail
      go_ret
      exact ⟨ret_bool HF.out, by rw [HW.out]; exact hB⟩
    · have q1 : decide (h < 1) = false := decide_eq_false b1
      by_cases b2 : 500 < h
      · have q2 : decide (500 < h) = true := decide_eq_true b2
        clear hr
        go_enter Tryz.func66, Tryz.ntmps66
        go_wp2_with fail
        go_ret
        exact ⟨ret_bool HF.out, by rw [HW.out]; exact hB⟩
      · have q2 : decide (500 < h) = false := decide_eq_false b2
        have q3 : ((pat.length : Int) != 16) = true := by
          rw [bne_iff_ne]; intro e; exact hr ⟨by omega, by omega⟩
        clear hr
        go_enter Tryz.func66, Tryz.ntmps66
        go_wp2_with fail
        go_ret
        exact ⟨ret_bool HF.out, by rw [HW.out]; exact hB⟩

end Go.Proofs.YtihepapjopcagaaGreatDoor

/- Layer 12: Loss, Equal, Copy of antennas, and the reference's. -/
namespace Go.Proofs.YtihepapjopcagaaGreatDoor
open Go Go.RowKit
set_option maxRecDepth 100000

set_option maxHeartbeats 4000000 in
theorem aLoss_ok (h : Int) (A : Option Addr) (c : Nat) (pat : List Int) (dx dy : Int) (w : World) (ht : Tab w) (hS : Sl 1 icell w w.heap.size A pat) (hv : M.avalid h pat = true) (hx : -100 ≤ dx ∧ dx ≤ 100) (hy : -100 ≤ dy ∧ dy ≤ 100) :
    Calls Tryz.prog 65 #[av h A pat.length c, .int .i64 dx, .int .i64 dy] w fun e w' => e = .returned (.tuple #[.int .i64 (M.aloss pat dx dy), .int .i64 0]) ∧ Below w.heap.size w w' := by
  obtain ⟨V, HW, x0, hB, -⟩ := boxes1 w #[.int .i64 h, .slice A pat.length c] 32
  have hS1 := (hS.below hB).more hB.size
  obtain ⟨-, hl, -⟩ := M.avalid_iff.1 hv
  have HL := Lib.hid hl
  have hl2 : pat.length ≤ 16 := by omega
  have HV := Lib.hid hv
  clear hl hv
  by_cases h0 : dx = 0 ∧ dy = 0
  · obtain ⟨rfl, rfl⟩ := h0
    have HF := Lib.hid (M.aloss_zero pat)
    go_enter Tryz.func65, Tryz.ntmps65
    go_wp2_with fail
    rw [HW.out]
    refine (aValid_any h A c pat V hS1 (by omega)).mono ?_
    rintro e w1 ⟨rfl, hb1⟩
    rw [HV.out]
    go_wp2_with fail
    go_ret2
    exact ⟨ret_int2 HF.out.symm rfl, after_ hB hb1⟩
  · have hdb := M.dir_bd dx dy
    obtain ⟨j, hj⟩ := Int.eq_ofNat_of_zero_le hdb.1
    have hjl : j < pat.length := by have := HL.out; omega
    have HF := Lib.hid (M.aloss_at h0 hj hjl)
    have HJ := Lib.hid hj
    have H0 := Lib.hid h0
    clear hj hdb
    have key : ∀ w1, Tab w1 → Below w.heap.size w w1 → Box w1 w.heap.size #[.int .i64 h, .slice A pat.length c] 32 → Sl 1 icell w1 w1.heap.size A pat → Calls Tryz.prog 85 #[.int .i64 dx, .int .i64 dy] w1 fun e w' => e = .returned (.tuple #[.int .i64 (j : Int), .int .i64 0]) ∧ Below w1.heap.size w1 w' := by
      intro w1 t1 _ _ _
      have := direction_ok dx dy w1 t1 hx hy H0.out
      rwa [HJ.out] at this
    by_cases hx0 : dx = 0
    · have hy0 : ¬ dy = 0 := fun h => h0 ⟨hx0, h⟩
      have q2 : (dy == 0) = false := by simp [hy0]
      subst hx0
      clear h0
      go_enter Tryz.func65, Tryz.ntmps65
      go_wp2_with fail
      rw [HW.out]
      refine (aValid_any h A c pat V hS1 (by omega)).mono ?_
      rintro e w1 ⟨rfl, hb1⟩
      rw [HV.out]
      have B1 := after_ hB hb1
      go_wp2_with fail
      refine (key w1 (ht.kept B1) B1 (x0.below hb1) ((hS1.below hb1).more hb1.size)).mono ?_
      rintro e w2 ⟨rfl, hb2⟩
      obtain ⟨c0, c1⟩ := ((x0.below hb1).below hb2).c2
      obtain ⟨ad, rfl, hab, da⟩ := ((((hS1.below hb1).more hb1.size).below hb2).more hb2.size).int_at hjl
      rw [HF.out] at da
      go_wp2_with fail
      go_ret2
      exact ⟨rfl, after_ B1 hb2⟩
    · have q1 : (dx == 0) = false := by simp [hx0]
      clear h0
      go_enter Tryz.func65, Tryz.ntmps65
      go_wp2_with fail
      rw [HW.out]
      refine (aValid_any h A c pat V hS1 (by omega)).mono ?_
      rintro e w1 ⟨rfl, hb1⟩
      rw [HV.out]
      have B1 := after_ hB hb1
      go_wp2_with fail
      refine (key w1 (ht.kept B1) B1 (x0.below hb1) ((hS1.below hb1).more hb1.size)).mono ?_
      rintro e w2 ⟨rfl, hb2⟩
      obtain ⟨c0, c1⟩ := ((x0.below hb1).below hb2).c2
      obtain ⟨ad, rfl, hab, da⟩ := ((((hS1.below hb1).more hb1.size).below hb2).more hb2.size).int_at hjl
      rw [HF.out] at da
      go_wp2_with fail
      go_ret2
      exact ⟨rfl, after_ B1 hb2⟩

def RetAnt (w : World) (h : Int) (pat : List Int) (e : Ending) (w' : World) : Prop :=
  ∃ A c, e = .returned (av h A pat.length c) ∧ w'.ownsRow w.heap.size 3 1 (.slice A pat.length c) pat.length (flat 1 icell pat) ∧ Below w.heap.size w w'

end Go.Proofs.YtihepapjopcagaaGreatDoor
namespace Go.Proofs.YtihepapjopcagaaGreatDoor
open Go Go.RowKit
set_option maxHeartbeats 4000000 in
theorem rACopy_ok (h : Int) (A : Option Addr) (c : Nat) (pat : List Int) (w : World) (hS : Sl 1 icell w w.heap.size A pat) (hl : pat.length ≤ 1000) :
    Calls Tryz.prog 46 #[av h A pat.length c] w (RetAnt w h pat) := by
  obtain ⟨V, HW, x0, x1, hB, hs⟩ := boxes2 w #[.int .i64 h, .slice A pat.length c] 32 #[.int .i64 0, .slice none 0 0] 32
  have hS1 := (hS.below hB).more hB.size
  obtain ⟨c0, c1⟩ := x0.c2
  obtain ⟨d0, d1⟩ := x1.c2
  have l0 := x0.lt
  have l1 := x1.lt
  obtain ⟨i0, hi, hz0, hz1, hz2⟩ := info_parts intInfo
  have Hi := Lib.hid hi; have Hz0 := Lib.hid hz0; have Hz1 := Lib.hid hz1; have Hz2 := Lib.hid hz2
  have hge : w.heap.size + 2 ≤ V.drew.heap.size := by show w.heap.size + 2 ≤ V.heap.size; omega
  have HG := Lib.hid hge
  have X0 : Box V.drew w.heap.size #[.int .i64 h, .slice A pat.length c] 32 := x0
  have X1 : Box V.drew (w.heap.size + 1) #[.int .i64 0, .slice none 0 0] 32 := x1
  have S1 : Sl 1 icell V.drew V.drew.heap.size A pat := hS1.drew
  have HS1 := Lib.hid ((S1.alloc (Nat.le_refl _) (.cells #[] 3)).more (B' := (V.drew.alloc (.cells #[] 3)).heap.size) (by simp))
  have HB1 := Lib.hid (hB.drew.alloc hB.drew.size (.cells #[] 3))
  have HO1 := Lib.hid (own_empty V.drew (w.heap.size + 2) 3 1 icell HG.out)
  have HX0 := Lib.hid (X0.alloc (.cells #[] 3))
  have HX1 := Lib.hid (X1.alloc (.cells #[] 3))
  have HZ : Hid (V.drew.heap.size ≠ w.heap.size ∧ V.drew.heap.size ≠ w.heap.size + 1) := Lib.hid (by omega)
  clear hi hz0 hz1 hz2 hs hge S1 X0 X1
  go_enter Tryz.func46, Tryz.ntmps46
  go_wp2_with fail
  rw [HW.out]
  go_region_law ((refine step_append_sl (w := V.drew.alloc (.cells #[] 3)) (w0 := w) (cell := icell) rfl _ _ _ rfl (w.heap.size + 2) w.heap.size 3 i0 _ 8 Tryz.underlying28 Hi.out Hz0.out Hz1.out Hz2.out rfl (by decide) (.slice (some ⟨V.drew.heap.size, 0, none⟩) 0 0) 0 [] rfl HO1.out _ A c pat rfl HS1.out i_one (by unfold maxLen; omega) (by omega) (Nat.le_trans HG.out (by simp)) (by omega) HB1.out ?_; intro v' w' hown' hb' hg'; obtain ⟨A', c', rfl, _⟩ := own_slice (by decide) hown'; have Y0 := HX0.out.grown hg' (by simp [Value.ownBlock]; exact fun e => HZ.out.1 e.symm); have Y1 := HX1.out.grown hg' (by simp [Value.ownBlock]; exact fun e => HZ.out.2 e.symm); obtain ⟨u0, u1⟩ := Y0.c2; obtain ⟨v0, v1⟩ := Y1.c2; have f0 := Y1.frozen 0; have f1 := Y1.frozen 1))
  all_goals
    simp only [List.nil_append, Nat.zero_add] at hown'
    have O1 := ownsRow_setCell_below hown' (a := ⟨w.heap.size + 1, 0, none⟩) (by show w.heap.size + 1 < w.heap.size + 2; omega) (.int .i64 h)
    have O2 := ownsRow_setCell_below O1 (a := ⟨w.heap.size + 1, 1, none⟩) (by show w.heap.size + 1 < w.heap.size + 2; omega) (.slice A' pat.length c')
    have B2 := (hb'.setCell (p := ⟨w.heap.size + 1, 0, none⟩) (by show w.heap.size ≤ w.heap.size + 1; omega) (.int .i64 h)).setCell (p := ⟨w.heap.size + 1, 1, none⟩) (by show w.heap.size ≤ w.heap.size + 1; omega) (.slice A' pat.length c')
    clear u0 u1 c0 c1 d0 d1
    go_wp2_with fail
    refine bodyPost_ret (v := av h A' pat.length c') ?_ rfl ⟨A', c', rfl, own_base O2 (by omega), B2⟩
    simp [results, Tryz.results46, go_sem, v0, v1]

end Go.Proofs.YtihepapjopcagaaGreatDoor
end

/- The reference's Direction and Loss of layer 12. -/
section
namespace Go.Proofs.YtihepapjopcagaaGreatDoor
open Go Go.RowKit
set_option maxRecDepth 100000

set_option maxHeartbeats 2000000 in
theorem rDir0 (dx dy : Int) (w : World) (hx : -100 ≤ dx ∧ dx ≤ 100) (hy : -100 ≤ dy ∧ dy ≤ 100) (sx : dx < 0) (sy : dy < 0) : Calls Tryz.prog 86 #[.int .i64 dx, .int .i64 dy] w fun e w' => e = .returned (.int .i64 (M.dir dx dy)) ∧ w = w' := by
  have q0 : decide (dx ≤ 0) = true := by simp; omega
  have q1 : decide (0 < dy) = false := by simp; omega
  have q2 : decide (dx < 0) = true := by simp; omega
  have q3 : decide (dy ≤ 0) = true := by simp; omega
  have q4 : decide (0 ≤ dx) = false := by simp; omega
  have q5 : decide (dy < 0) = true := by simp; omega
  by_cases b0 : 2 * (-dy) < -dx
  · have HF : Hid (((8 : Int)) = M.dir dx dy) := Lib.hid (by unfold M.dir M.steps; clear q0 q1 q2 q3 q4 q5; repeat' split; all_goals omega)
    go_enter Tryz.func86, Tryz.ntmps86
    go_wp2_with fail
    go_ret
    exact ⟨ret_int HF.out, rfl⟩
  by_cases b1 : -dy < -dx
  · have HF : Hid (((9 : Int)) = M.dir dx dy) := Lib.hid (by unfold M.dir M.steps; clear q0 q1 q2 q3 q4 q5; repeat' split; all_goals omega)
    go_enter Tryz.func86, Tryz.ntmps86
    go_wp2_with fail
    go_ret
    exact ⟨ret_int HF.out, rfl⟩
  by_cases b2 : -dy < 2 * (-dx)
  · have HF : Hid (((10 : Int)) = M.dir dx dy) := Lib.hid (by unfold M.dir M.steps; clear q0 q1 q2 q3 q4 q5; repeat' split; all_goals omega)
    go_enter Tryz.func86, Tryz.ntmps86
    go_wp2_with fail
    go_ret
    exact ⟨ret_int HF.out, rfl⟩
  have HF : Hid (((11 : Int)) = M.dir dx dy) := Lib.hid (by unfold M.dir M.steps; clear q0 q1 q2 q3 q4 q5; repeat' split; all_goals omega)
  go_enter Tryz.func86, Tryz.ntmps86
  go_wp2_with fail
  go_ret
  exact ⟨ret_int HF.out, rfl⟩

set_option maxHeartbeats 2000000 in
theorem rDir1 (dx dy : Int) (w : World) (hx : -100 ≤ dx ∧ dx ≤ 100) (hy : -100 ≤ dy ∧ dy ≤ 100) (sx : dx < 0) (sy : 0 ≤ dy ∧ dy ≤ 0) : Calls Tryz.prog 86 #[.int .i64 dx, .int .i64 dy] w fun e w' => e = .returned (.int .i64 (M.dir dx dy)) ∧ w = w' := by
  have q0 : decide (dx ≤ 0) = true := by simp; omega
  have q1 : decide (0 < dy) = false := by simp; omega
  have q2 : decide (dx < 0) = true := by simp; omega
  have q3 : decide (dy ≤ 0) = true := by simp; omega
  have q4 : decide (0 ≤ dx) = false := by simp; omega
  have q5 : decide (dy < 0) = false := by simp; omega
  have b0 : 2 * (-dy) < -dx := by omega
  have HF : Hid (((8 : Int)) = M.dir dx dy) := Lib.hid (by unfold M.dir M.steps; clear q0 q1 q2 q3 q4 q5; repeat' split; all_goals omega)
  go_enter Tryz.func86, Tryz.ntmps86
  go_wp2_with fail
  go_ret
  exact ⟨ret_int HF.out, rfl⟩

set_option maxHeartbeats 2000000 in
theorem rDir2 (dx dy : Int) (w : World) (hx : -100 ≤ dx ∧ dx ≤ 100) (hy : -100 ≤ dy ∧ dy ≤ 100) (sx : dx < 0) (sy : 0 < dy) : Calls Tryz.prog 86 #[.int .i64 dx, .int .i64 dy] w fun e w' => e = .returned (.int .i64 (M.dir dx dy)) ∧ w = w' := by
  have q0 : decide (dx ≤ 0) = true := by simp; omega
  have q1 : decide (0 < dy) = true := by simp; omega
  have q2 : decide (dx < 0) = true := by simp; omega
  have q3 : decide (dy ≤ 0) = false := by simp; omega
  have q4 : decide (0 ≤ dx) = false := by simp; omega
  have q5 : decide (dy < 0) = false := by simp; omega
  by_cases b0 : 2 * (-dx) < dy
  · have HF : Hid (((4 : Int)) = M.dir dx dy) := Lib.hid (by unfold M.dir M.steps; clear q0 q1 q2 q3 q4 q5; repeat' split; all_goals omega)
    go_enter Tryz.func86, Tryz.ntmps86
    go_wp2_with fail
    go_ret
    exact ⟨ret_int HF.out, rfl⟩
  by_cases b1 : -dx < dy
  · have HF : Hid (((5 : Int)) = M.dir dx dy) := Lib.hid (by unfold M.dir M.steps; clear q0 q1 q2 q3 q4 q5; repeat' split; all_goals omega)
    go_enter Tryz.func86, Tryz.ntmps86
    go_wp2_with fail
    go_ret
    exact ⟨ret_int HF.out, rfl⟩
  by_cases b2 : -dx < 2 * dy
  · have HF : Hid (((6 : Int)) = M.dir dx dy) := Lib.hid (by unfold M.dir M.steps; clear q0 q1 q2 q3 q4 q5; repeat' split; all_goals omega)
    go_enter Tryz.func86, Tryz.ntmps86
    go_wp2_with fail
    go_ret
    exact ⟨ret_int HF.out, rfl⟩
  have HF : Hid (((7 : Int)) = M.dir dx dy) := Lib.hid (by unfold M.dir M.steps; clear q0 q1 q2 q3 q4 q5; repeat' split; all_goals omega)
  go_enter Tryz.func86, Tryz.ntmps86
  go_wp2_with fail
  go_ret
  exact ⟨ret_int HF.out, rfl⟩

set_option maxHeartbeats 2000000 in
theorem rDir3 (dx dy : Int) (w : World) (hx : -100 ≤ dx ∧ dx ≤ 100) (hy : -100 ≤ dy ∧ dy ≤ 100) (sx : 0 ≤ dx ∧ dx ≤ 0) (sy : dy < 0) : Calls Tryz.prog 86 #[.int .i64 dx, .int .i64 dy] w fun e w' => e = .returned (.int .i64 (M.dir dx dy)) ∧ w = w' := by
  have q0 : decide (dx ≤ 0) = true := by simp; omega
  have q1 : decide (0 < dy) = false := by simp; omega
  have q2 : decide (dx < 0) = false := by simp; omega
  have q3 : decide (dy ≤ 0) = true := by simp; omega
  have q4 : decide (0 ≤ dx) = true := by simp; omega
  have q5 : decide (dy < 0) = true := by simp; omega
  have b0 : 2 * dx < -dy := by omega
  have HF : Hid (((12 : Int)) = M.dir dx dy) := Lib.hid (by unfold M.dir M.steps; clear q0 q1 q2 q3 q4 q5; repeat' split; all_goals omega)
  go_enter Tryz.func86, Tryz.ntmps86
  go_wp2_with fail
  go_ret
  exact ⟨ret_int HF.out, rfl⟩

set_option maxHeartbeats 2000000 in
theorem rDir4 (dx dy : Int) (w : World) (hx : -100 ≤ dx ∧ dx ≤ 100) (hy : -100 ≤ dy ∧ dy ≤ 100) (sx : 0 ≤ dx ∧ dx ≤ 0) (sy : 0 < dy) : Calls Tryz.prog 86 #[.int .i64 dx, .int .i64 dy] w fun e w' => e = .returned (.int .i64 (M.dir dx dy)) ∧ w = w' := by
  have q0 : decide (dx ≤ 0) = true := by simp; omega
  have q1 : decide (0 < dy) = true := by simp; omega
  have q2 : decide (dx < 0) = false := by simp; omega
  have q3 : decide (dy ≤ 0) = false := by simp; omega
  have q4 : decide (0 ≤ dx) = true := by simp; omega
  have q5 : decide (dy < 0) = false := by simp; omega
  have b0 : 2 * (-dx) < dy := by omega
  have HF : Hid (((4 : Int)) = M.dir dx dy) := Lib.hid (by unfold M.dir M.steps; clear q0 q1 q2 q3 q4 q5; repeat' split; all_goals omega)
  go_enter Tryz.func86, Tryz.ntmps86
  go_wp2_with fail
  go_ret
  exact ⟨ret_int HF.out, rfl⟩

set_option maxHeartbeats 2000000 in
theorem rDir5 (dx dy : Int) (w : World) (hx : -100 ≤ dx ∧ dx ≤ 100) (hy : -100 ≤ dy ∧ dy ≤ 100) (sx : 0 < dx) (sy : dy < 0) : Calls Tryz.prog 86 #[.int .i64 dx, .int .i64 dy] w fun e w' => e = .returned (.int .i64 (M.dir dx dy)) ∧ w = w' := by
  have q0 : decide (dx ≤ 0) = false := by simp; omega
  have q1 : decide (0 < dy) = false := by simp; omega
  have q2 : decide (dx < 0) = false := by simp; omega
  have q3 : decide (dy ≤ 0) = true := by simp; omega
  have q4 : decide (0 ≤ dx) = true := by simp; omega
  have q5 : decide (dy < 0) = true := by simp; omega
  by_cases b0 : 2 * dx < -dy
  · have HF : Hid (((12 : Int)) = M.dir dx dy) := Lib.hid (by unfold M.dir M.steps; clear q0 q1 q2 q3 q4 q5; repeat' split; all_goals omega)
    go_enter Tryz.func86, Tryz.ntmps86
    go_wp2_with fail
    go_ret
    exact ⟨ret_int HF.out, rfl⟩
  by_cases b1 : dx < -dy
  · have HF : Hid (((13 : Int)) = M.dir dx dy) := Lib.hid (by unfold M.dir M.steps; clear q0 q1 q2 q3 q4 q5; repeat' split; all_goals omega)
    go_enter Tryz.func86, Tryz.ntmps86
    go_wp2_with fail
    go_ret
    exact ⟨ret_int HF.out, rfl⟩
  by_cases b2 : dx < 2 * (-dy)
  · have HF : Hid (((14 : Int)) = M.dir dx dy) := Lib.hid (by unfold M.dir M.steps; clear q0 q1 q2 q3 q4 q5; repeat' split; all_goals omega)
    go_enter Tryz.func86, Tryz.ntmps86
    go_wp2_with fail
    go_ret
    exact ⟨ret_int HF.out, rfl⟩
  have HF : Hid (((15 : Int)) = M.dir dx dy) := Lib.hid (by unfold M.dir M.steps; clear q0 q1 q2 q3 q4 q5; repeat' split; all_goals omega)
  go_enter Tryz.func86, Tryz.ntmps86
  go_wp2_with fail
  go_ret
  exact ⟨ret_int HF.out, rfl⟩

set_option maxHeartbeats 2000000 in
theorem rDir6 (dx dy : Int) (w : World) (hx : -100 ≤ dx ∧ dx ≤ 100) (hy : -100 ≤ dy ∧ dy ≤ 100) (sx : 0 < dx) (sy : 0 ≤ dy ∧ dy ≤ 0) : Calls Tryz.prog 86 #[.int .i64 dx, .int .i64 dy] w fun e w' => e = .returned (.int .i64 (M.dir dx dy)) ∧ w = w' := by
  have q0 : decide (dx ≤ 0) = false := by simp; omega
  have q1 : decide (0 < dy) = false := by simp; omega
  have q2 : decide (dx < 0) = false := by simp; omega
  have q3 : decide (dy ≤ 0) = true := by simp; omega
  have q4 : decide (0 ≤ dx) = true := by simp; omega
  have q5 : decide (dy < 0) = false := by simp; omega
  have b0 : 2 * dy < dx := by omega
  have HF : Hid (((0 : Int)) = M.dir dx dy) := Lib.hid (by unfold M.dir M.steps; clear q0 q1 q2 q3 q4 q5; repeat' split; all_goals omega)
  go_enter Tryz.func86, Tryz.ntmps86
  go_wp2_with fail
  go_ret
  exact ⟨ret_int HF.out, rfl⟩

set_option maxHeartbeats 2000000 in
theorem rDir7 (dx dy : Int) (w : World) (hx : -100 ≤ dx ∧ dx ≤ 100) (hy : -100 ≤ dy ∧ dy ≤ 100) (sx : 0 < dx) (sy : 0 < dy) : Calls Tryz.prog 86 #[.int .i64 dx, .int .i64 dy] w fun e w' => e = .returned (.int .i64 (M.dir dx dy)) ∧ w = w' := by
  have q0 : decide (dx ≤ 0) = false := by simp; omega
  have q1 : decide (0 < dy) = true := by simp; omega
  have q2 : decide (dx < 0) = false := by simp; omega
  have q3 : decide (dy ≤ 0) = false := by simp; omega
  have q4 : decide (0 ≤ dx) = true := by simp; omega
  have q5 : decide (dy < 0) = false := by simp; omega
  by_cases b0 : 2 * dy < dx
  · have HF : Hid (((0 : Int)) = M.dir dx dy) := Lib.hid (by unfold M.dir M.steps; clear q0 q1 q2 q3 q4 q5; repeat' split; all_goals omega)
    go_enter Tryz.func86, Tryz.ntmps86
    go_wp2_with fail
    go_ret
    exact ⟨ret_int HF.out, rfl⟩
  by_cases b1 : dy < dx
  · have HF : Hid (((1 : Int)) = M.dir dx dy) := Lib.hid (by unfold M.dir M.steps; clear q0 q1 q2 q3 q4 q5; repeat' split; all_goals omega)
    go_enter Tryz.func86, Tryz.ntmps86
    go_wp2_with fail
    go_ret
    exact ⟨ret_int HF.out, rfl⟩
  by_cases b2 : dy < 2 * dx
  · have HF : Hid (((2 : Int)) = M.dir dx dy) := Lib.hid (by unfold M.dir M.steps; clear q0 q1 q2 q3 q4 q5; repeat' split; all_goals omega)
    go_enter Tryz.func86, Tryz.ntmps86
    go_wp2_with fail
    go_ret
    exact ⟨ret_int HF.out, rfl⟩
  have HF : Hid (((3 : Int)) = M.dir dx dy) := Lib.hid (by unfold M.dir M.steps; clear q0 q1 q2 q3 q4 q5; repeat' split; all_goals omega)
  go_enter Tryz.func86, Tryz.ntmps86
  go_wp2_with fail
  go_ret
  exact ⟨ret_int HF.out, rfl⟩

theorem rDir_ok (dx dy : Int) (w : World) (hx : -100 ≤ dx ∧ dx ≤ 100) (hy : -100 ≤ dy ∧ dy ≤ 100) (h0 : ¬ (dx = 0 ∧ dy = 0)) : Calls Tryz.prog 86 #[.int .i64 dx, .int .i64 dy] w fun e w' => e = .returned (.int .i64 (M.dir dx dy)) ∧ w = w' := by
  have tx : dx < 0 ∨ dx = 0 ∨ 0 < dx := by omega
  have ty : dy < 0 ∨ dy = 0 ∨ 0 < dy := by omega
  rcases tx with a | a | a <;> rcases ty with b | b | b
  · exact rDir0 dx dy w hx hy a b
  · exact rDir1 dx dy w hx hy a (by omega)
  · exact rDir2 dx dy w hx hy a b
  · exact rDir3 dx dy w hx hy (by omega) b
  · exact absurd ⟨a, b⟩ h0
  · exact rDir4 dx dy w hx hy (by omega) b
  · exact rDir5 dx dy w hx hy a b
  · exact rDir6 dx dy w hx hy a (by omega)
  · exact rDir7 dx dy w hx hy a b

set_option maxHeartbeats 4000000 in
theorem rALoss_ok (h : Int) (A : Option Addr) (c : Nat) (pat : List Int) (dx dy : Int) (w : World) (hS : Sl 1 icell w w.heap.size A pat) (hv : M.avalid h pat = true) (hx : -100 ≤ dx ∧ dx ≤ 100) (hy : -100 ≤ dy ∧ dy ≤ 100) :
    Calls Tryz.prog 67 #[av h A pat.length c, .int .i64 dx, .int .i64 dy] w fun e w' => e = .returned (.int .i64 (M.aloss pat dx dy)) ∧ Below w.heap.size w w' := by
  obtain ⟨V, HW, x0, hB, -⟩ := boxes1 w #[.int .i64 h, .slice A pat.length c] 32
  have hS1 := (hS.below hB).more hB.size
  obtain ⟨-, hl, -⟩ := M.avalid_iff.1 hv
  have HL := Lib.hid hl
  clear hl hv
  by_cases h0 : dx = 0 ∧ dy = 0
  · obtain ⟨rfl, rfl⟩ := h0
    have HF := Lib.hid (M.aloss_zero pat)
    go_enter Tryz.func67, Tryz.ntmps67
    go_wp2_with fail
    go_ret
    exact ⟨ret_int HF.out.symm, by rw [HW.out]; exact hB⟩
  · have hdb := M.dir_bd dx dy
    obtain ⟨j, hj⟩ := Int.eq_ofNat_of_zero_le hdb.1
    have hjl : j < pat.length := by have := HL.out; omega
    have HF := Lib.hid (M.aloss_at h0 hj hjl)
    have HJ := Lib.hid hj
    have H0 := Lib.hid h0
    have key : ∀ w1, Hid (dx = dx) → Calls Tryz.prog 86 #[.int .i64 dx, .int .i64 dy] w1 fun e w' => e = .returned (.int .i64 (j : Int)) ∧ w1 = w' := by
      intro w1 _
      have := rDir_ok dx dy w1 hx hy H0.out
      rwa [HJ.out] at this
    have hK : Hid (dx = dx) := Lib.hid rfl
    obtain ⟨c0, c1⟩ := x0.c2
    obtain ⟨ad, rfl, hab, da⟩ := hS1.int_at hjl
    rw [HF.out] at da
    have hab2 : (ad.add j).block < V.heap.size := by rw [add_block]; exact hab
    have l0 := x0.lt
    have r1 : (0 : Int) ≤ (j : Int) := by omega
    have r2 : (j : Int) < (pat.length : Int) := by omega
    clear hj hdb
    by_cases hx0 : dx = 0
    · have hy0 : ¬ dy = 0 := fun h => h0 ⟨hx0, h⟩
      have q2 : (dy == 0) = false := by simp [hy0]
      subst hx0
      clear h0
      go_enter Tryz.func67, Tryz.ntmps67
      go_wp2_with fail
      rw [HW.out]
      refine wp_region_kept V.heap.size V (by kernel_rfl) (by kernel_rfl) (Below.refl _ _) ?_
      repeat (go_big_quiet_step ((go_at_call 86; exact Kept.same (key _ hK))))
      refine wpQuiet_nil ?_
      rintro w1 ⟨⟨_, hb1⟩, rfl⟩
      go_wp2_with fail
      go_ret
      exact ⟨rfl, after_ hB hb1⟩
    · have q1 : (dx == 0) = false := by simp [hx0]
      clear h0
      go_enter Tryz.func67, Tryz.ntmps67
      go_wp2_with fail
      rw [HW.out]
      refine wp_region_kept V.heap.size V (by kernel_rfl) (by kernel_rfl) (Below.refl _ _) ?_
      repeat (go_big_quiet_step ((go_at_call 86; exact Kept.same (key _ hK))))
      refine wpQuiet_nil ?_
      rintro w1 ⟨⟨_, hb1⟩, rfl⟩
      go_wp2_with fail
      go_ret
      exact ⟨rfl, after_ hB hb1⟩
end Go.Proofs.YtihepapjopcagaaGreatDoor
end
