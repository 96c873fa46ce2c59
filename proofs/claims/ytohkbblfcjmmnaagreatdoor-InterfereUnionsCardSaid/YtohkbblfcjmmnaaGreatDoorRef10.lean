/- The reference of layer 10: Floor, Index, Span, Line, Valid, Has. -/
import Derived.Test.YtohkbblfcjmmnaaGreatDoorProf
namespace Go.Proofs.YtohkbblfcjmmnaaGreatDoor
open Go Go.RowKit
set_option maxRecDepth 100000

set_option maxHeartbeats 1000000 in
theorem rFloor_any (a b : Int) (w : World) (ha : -1000000 ≤ a ∧ a ≤ 1000000) (hb : 1 ≤ b ∧ b ≤ 1000000) :
    Calls Tryz.prog 97 #[.int .i64 a, .int .i64 b] w fun e w' => e = .returned (.int .i64 (a / b)) ∧ w = w' := by
  have hbd := M.floor_bd ha (show 0 < b by omega)
  by_cases h : a.tmod b < 0
  · have h1 := M.floor_neg (show 0 < b by omega) h
    obtain ⟨q, hq⟩ : ∃ q, a.tdiv b = q := ⟨_, rfl⟩
    obtain ⟨r, hr⟩ : ∃ r, a.tmod b = r := ⟨_, rfl⟩
    rw [hq] at h1
    rw [hr] at h
    rw [← h1] at hbd ⊢
    clear h1
    go_enter Tryz.func97, Tryz.ntmps97
    go_wp2_with fail
    go_ret
    exact ⟨rfl, rfl⟩
  · have h1 := M.floor_pos (show 0 < b by omega) (show 0 ≤ a.tmod b by omega)
    obtain ⟨q, hq⟩ : ∃ q, a.tdiv b = q := ⟨_, rfl⟩
    obtain ⟨r, hr⟩ : ∃ r, a.tmod b = r := ⟨_, rfl⟩
    rw [hq] at h1
    rw [hr] at h
    rw [← h1] at hbd ⊢
    clear h1
    go_enter Tryz.func97, Tryz.ntmps97
    go_wp2_with fail
    go_ret
    exact ⟨rfl, rfl⟩

set_option maxHeartbeats 2000000 in
theorem rIndex_at (W H : Int) (GA PA : Option Addr) (gl gc pl pc : Nat) (x y : Int) (j : Nat) (w : World) (hW : 1 ≤ W ∧ W ≤ 64) (hH : 1 ≤ H ∧ H ≤ 64) (hx : 0 ≤ x ∧ x < W) (hy : 0 ≤ y ∧ y < H) (hj : Hid (y * W + x = (j : Int))) :
    Calls Tryz.prog 77 #[tv W H GA PA gl gc pl pc, cv x y] w fun e w' => e = .returned (.int .i64 (j : Int)) ∧ Below w.heap.size w w' := by
  rw [← hj.out]
  have hB0 := (Below.refl w.heap.size w).alloc (Nat.le_refl _) (.cells #[.int .i64 W, .int .i64 H, .slice GA gl gc, .slice PA pl pc] 24)
  have hB1 := hB0.alloc hB0.size (.cells #[.int .i64 x, .int .i64 y] 60)
  obtain ⟨b1, b2, b3⟩ := M.place_bd hW hH hx hy
  clear b3 hj
  generalize hp : y * W = p at *
  go_enter Tryz.func77, Tryz.ntmps77
  go_wp2_with fail
  go_ret
  exact ⟨rfl, hB1⟩

def M.mx (l : List Int) : Int := l.foldl max 0
theorem M.mx_snoc (l : List Int) (y : Int) : M.mx (l ++ [y]) = max (M.mx l) y := by unfold M.mx; rw [List.foldl_append]; rfl
theorem M.mx_nonneg (l : List Int) : 0 ≤ M.mx l := by
  unfold M.mx
  suffices h : ∀ (l : List Int) (a : Int), 0 ≤ a → 0 ≤ l.foldl max a from h l 0 (Int.le_refl _)
  intro l
  induction l with
  | nil => intro a h; exact h
  | cons x l ih => intro a h; exact ih _ (by omega)
theorem M.mx_span (ax ay bx by' : Int) : M.mx [bx - ax, ax - bx, by' - ay, ay - by'] = M.span ax ay bx by' := by
  unfold M.mx M.span
  simp only [List.foldl_cons, List.foldl_nil]
  omega

set_option maxHeartbeats 4000000 in
theorem rSpan_ok (ax ay bx by' : Int) (w : World) (h1 : M.c63 ax) (h2 : M.c63 ay) (h3 : M.c63 bx) (h4 : M.c63 by') :
    Calls Tryz.prog 96 #[cv ax ay, cv bx by'] w fun e w' => e = .returned (.int .i64 (M.span ax ay bx by')) ∧ Below w.heap.size w w' := by
  obtain ⟨V, HW, x0, x1, x2, hB, -⟩ := boxes3 w #[.int .i64 ax, .int .i64 ay] 60 #[.int .i64 bx, .int .i64 by'] 60 #[.int .i64 (bx - ax), .int .i64 (ax - bx), .int .i64 (by' - ay), .int .i64 (ay - by')] 3
  have hS : Sl 1 icell V V.heap.size (some ⟨w.heap.size + 1 + 1, 0, none⟩) [bx - ax, ax - bx, by' - ay, ay - by'] := Sl.of_box x2 rfl
  have HM := Lib.hid (M.mx_span ax ay bx by')
  have hL4 : Hid ([bx - ax, ax - bx, by' - ay, ay - by'].length = 4) := Lib.hid rfl
  unfold M.c63 at h1 h2 h3 h4
  go_enter Tryz.func96, Tryz.ntmps96
  go_wp2_with fail
  rw [HW.out]
  generalize [bx - ax, ax - bx, by' - ay, ay - by'] = l at *
  go_loop [6, 7] (fun n i => ∃ k : Nat, k ≤ 4 ∧ i = .int .i64 k ∧ n = .int .i64 (M.mx (l.take k))) (fun _ i => 4 - (intOf i).toNat)
  case atStart => exact ⟨0, Nat.zero_le _, rfl, rfl⟩
  case round =>
    obtain ⟨k, hk, rfl, rfl⟩ := hrel
    by_cases hlt : k < 4
    · have hlt' : k < l.length := by rw [hL4.out]; exact hlt
      obtain ⟨ad, ead, hab, da⟩ := hS.int_at hlt'
      obtain rfl := Option.some.inj ead
      rw [add_base] at da
      have HT : Hid (l.take (k + 1) = l.take k ++ [l[k]]) := Lib.hid (List.take_succ_eq_append_getElem hlt')
      generalize l[k] = y at *
      have HX := Lib.hid (M.mx_snoc (l.take k) y)
      clear ead
      generalize M.mx (l.take k) = n at *
      by_cases hc : n < y
      · go_wp2_with fail
        go_round
        case rel => exact ⟨k + 1, hlt, by go_num, by rw [HT.out, HX.out]; congr 1; omega⟩
        case measure => simp [intOf]; omega
      · go_wp2_with fail
        go_round
        case rel => exact ⟨k + 1, hlt, by go_num, by rw [HT.out, HX.out]; congr 1; omega⟩
        case measure => simp [intOf]; omega
    · obtain rfl : k = 4 := by omega
      have HF : Hid (M.mx (l.take 4) = M.span ax ay bx by') := Lib.hid (by rw [List.take_of_length_le (by rw [hL4.out]; exact Nat.le_refl _), HM.out])
      go_wp2_with fail
      go_ret
      exact ⟨ret_int HF.out, hB⟩

set_option maxHeartbeats 4000000 in
theorem rLine_ok (ax ay bx by' : Int) (w : World) (h1 : M.c63 ax) (h2 : M.c63 ay) (h3 : M.c63 bx) (h4 : M.c63 by') :
    Calls Tryz.prog 78 #[cv ax ay, cv bx by'] w (RetS 2 ccell w (M.line ax ay bx by')) := by
  obtain ⟨V0, HW, x0, x1, hB, -⟩ := boxes2 w #[.int .i64 ax, .int .i64 ay] 60 #[.int .i64 bx, .int .i64 by'] 60
  obtain ⟨i0, hi, hz0, hz1, hz2⟩ := info_parts cellInfo
  have Hi := Lib.hid hi; have Hz0 := Lib.hid hz0; have Hz1 := Lib.hid hz1; have Hz2 := Lib.hid hz2
  clear hi hz0 hz1 hz2
  have hsb := M.span_bd h1 h2 h3 h4
  go_enter Tryz.func78, Tryz.ntmps78
  go_wp2_with fail
  rw [HW.out]
  refine (rSpan_ok ax ay bx by' V0 h1 h2 h3 h4).mono ?_
  rintro e V ⟨rfl, hb1⟩
  have BV := after_ hB hb1
  have y0 := x0.below hb1
  have y1 := x1.below hb1
  clear x0 x1 hb1 hB
  have HL : Hid ((M.line ax ay bx by').length = (M.span ax ay bx by').toNat - 1) := Lib.hid (M.line_length ax ay bx by')
  have HA : Hid (∀ k (h : k < (M.line ax ay bx by').length), (M.line ax ay bx by')[k] = (M.pt ax bx (M.span ax ay bx by') ((k : Int) + 1), M.pt ay by' (M.span ax ay bx by') ((k : Int) + 1))) := Lib.hid (fun k h => by rw [M.line_at]; unfold M.lineAt; rw [Int.natCast_add]; rfl)
  generalize M.span ax ay bx by' = n at *
  generalize M.line ax ay bx by' = L at *
  go_wp2_with fail
  go_loopw [5, 7] (fun out i wr => ∃ k : Nat, k ≤ L.length ∧ i = .int .i64 ((k : Int) + 1) ∧ Below V.heap.size V wr ∧ wr.ownsRow V.heap.size 60 2 out k (flat 2 ccell (L.take k))) (fun _ i _ => 64 - (intOf i).toNat)
  case atStart => exact ⟨0, Nat.zero_le _, rfl, Below.refl _ _, own_nil _ _ _ _ _⟩
  case round =>
    obtain ⟨k, hk, rfl, hB, hown⟩ := hrel
    have hLl := HL.out
    by_cases hlt : k < L.length
    · have hkn : (k : Int) + 1 < n := by omega
      obtain ⟨d0, d1⟩ := (y0.below hB).c2
      obtain ⟨d2, d3⟩ := (y1.below hB).c2
      have m0 := (y0.below hB).lt
      have m1 := (y1.below hB).lt
      have HTk : Hid (L.take (k + 1) = L.take k ++ [L[k]]) := Lib.hid (List.take_succ_eq_append_getElem hlt)
      have ha := HA.out k hlt
      obtain ⟨y, hy⟩ : ∃ y, L[k] = y := ⟨_, rfl⟩
      rw [hy] at HTk ha
      unfold M.pt at ha
      have hpx := M.prod_bd (k := (k : Int) + 1) (d := bx - ax) (by omega) (by unfold M.c63 at *; omega)
      have hpy := M.prod_bd (k := (k : Int) + 1) (d := by' - ay) (by omega) (by unfold M.c63 at *; omega)
      obtain ⟨dx, hdx⟩ : ∃ d, bx - ax = d := ⟨_, rfl⟩
      obtain ⟨dy, hdy⟩ : ∃ d, by' - ay = d := ⟨_, rfl⟩
      have hdxb : -63 ≤ dx ∧ dx ≤ 63 := by unfold M.c63 at *; omega
      have hdyb : -63 ≤ dy ∧ dy ≤ 63 := by unfold M.c63 at *; omega
      rw [hdx] at hpx ha
      rw [hdy] at hpy ha
      obtain ⟨px, hpx'⟩ : ∃ p, 2 * ((k : Int) + 1) * dx = p := ⟨_, rfl⟩
      obtain ⟨py, hpy'⟩ : ∃ p, 2 * ((k : Int) + 1) * dy = p := ⟨_, rfl⟩
      rw [hpx'] at hpx ha
      rw [hpy'] at hpy ha
      have hqx := M.floor_bd (a := px + n) (b := 2 * n) (c := 8001) (by omega) (by omega)
      have hqy := M.floor_bd (a := py + n) (b := 2 * n) (c := 8001) (by omega) (by omega)
      have hax : 0 ≤ ax ∧ ax ≤ 63 := h1
      have hay : 0 ≤ ay ∧ ay ≤ 63 := h2
      have hbx : 0 ≤ bx ∧ bx ≤ 63 := h3
      have hby : 0 ≤ by' ∧ by' ≤ 63 := h4
      have HY := Lib.hid ha
      clear ha hy
      go_wp2_with fail
      refine wp_region_kept_tail1 34 wr.heap.size wr _ (by kernel_rfl) rfl rfl (by kernel_rfl) (by kernel_rfl) (by kernel_rfl) (fun _ _ _ _ h => h) (Below.refl _ _) ?_
      simp only [List.take_succ_cons, List.take_zero, List.drop_succ_cons, List.drop_zero]
      repeat (go_big_quiet_step ((go_at_call 97; exact Kept.same (rFloor_any _ _ _ (by omega) (by omega)))))
      refine wpQuiet_nil ?_
      rintro w2 ⟨⟨_, hb2⟩, rfl⟩
      have hown2 := own_below hown hb2
      have hB2 := after_ hB hb2
      have e := HY.out
      clear d0 d1 d2 d3 HY hown hpx' hpy' hdx hdy
      subst e
      go_wp2_with (at_builtin; refine wpList_push (w0 := V) (cell := ccell) (y := (ax + (px + n) / (2 * n), ay + (py + n) / (2 * n))) rfl _ _ _ rfl V.heap.size V.heap.size 60 i0 _ 16 Tryz.underlying85 Hi.out Hz0.out Hz1.out Hz2.out rfl (by decide) _ k _ rfl hown2 _ _ rfl _ rfl (c_one _) (by unfold maxLen; omega) (by omega) hB2.size (Nat.le_refl _) hB2 ?_; intro v' w' hown' hb' hg')
      go_roundw
      case rel => exact ⟨k + 1, by omega, by go_num, hb', by rw [HTk.out]; exact hown'⟩
      case measure => simp [intOf]; omega
    · have hkl : k = L.length := by omega
      have HK : Hid (L.take k = L) := Lib.hid (by rw [hkl, List.take_length])
      have hnk : n ≤ (k : Int) + 1 := by omega
      clear hkl hLl
      rw [HK.out] at hown
      go_wp2_with fail
      go_ret
      obtain ⟨A, c, rfl, hS⟩ := own_slice (by decide) hown
      exact ⟨A, c, rfl, hS, BV.trans (hB.mono BV.size)⟩

theorem M.tvalid_at {W H : Int} {G P : List Int} {k : Nat} (hg : k < G.length) (hp : k < P.length) (h : ¬ ((0 ≤ G[k] ∧ G[k] ≤ 9000) ∧ (0 ≤ P[k] ∧ P[k] ≤ 1000000))) : M.tvalid W H G P = false := by
  cases hv : M.tvalid W H G P with
  | false => rfl
  | true =>
    obtain ⟨_, _, _, _, h5, h6⟩ := M.tvalid_iff.1 hv
    exact absurd ⟨h5 _ (List.getElem_mem hg), h6 _ (List.getElem_mem hp)⟩ h
theorem M.tvalid_all {W H : Int} {G P : List Int} (hW : 1 ≤ W ∧ W ≤ 64) (hH : 1 ≤ H ∧ H ≤ 64) (hg : (G.length : Int) = W * H) (hp : (P.length : Int) = W * H) (h : ∀ k (hg : k < G.length) (hp : k < P.length), ((0 ≤ G[k] ∧ G[k] ≤ 9000) ∧ (0 ≤ P[k] ∧ P[k] ≤ 1000000))) : M.tvalid W H G P = true := by
  refine M.tvalid_iff.2 ⟨hW, hH, hg, hp, fun g hm => ?_, fun g hm => ?_⟩
  · obtain ⟨i, hi, rfl⟩ := List.getElem_of_mem hm
    exact (h i hi (by omega)).1
  · obtain ⟨i, hi, rfl⟩ := List.getElem_of_mem hm
    exact (h i (by omega) hi).2

set_option maxHeartbeats 4000000 in
theorem rValid_any (W H : Int) (GA PA : Option Addr) (gc pc : Nat) (G P : List Int) (w : World) (hg : Sl 1 icell w w.heap.size GA G) (hp : Sl 1 icell w w.heap.size PA P) (hgl : G.length ≤ 9223372036854775806) :
    Calls Tryz.prog 35 #[tv W H GA PA G.length gc P.length pc] w fun e w' => e = .returned (.bool (M.tvalid W H G P)) ∧ Below w.heap.size w w' := by
  obtain ⟨V, HW, x0, hB, -⟩ := boxes1 w #[.int .i64 W, .int .i64 H, .slice GA G.length gc, .slice PA P.length pc] 24
  have hg1 := (hg.below hB).more hB.size
  have hp1 := (hp.below hB).more hB.size
  by_cases hr : (1 ≤ W ∧ W ≤ 64) ∧ (1 ≤ H ∧ H ≤ 64)
  · obtain ⟨a1, a2⟩ := hr
    have hm1 : 1 ≤ W * H := by
      have := Int.mul_le_mul a1.1 a2.1 (by omega) (by omega)
      omega
    have hm2 : W * H ≤ 4096 := by
      have := Int.mul_le_mul a1.2 a2.2 (by omega) (by omega)
      omega
    obtain ⟨n, hn⟩ : ∃ n, W * H = n := ⟨_, rfl⟩
    rw [hn] at hm1 hm2
    have q1 : decide (W < 1) = false := by simp; omega
    have q2 : decide (64 < W) = false := by simp; omega
    have q3 : decide (H < 1) = false := by simp; omega
    have q4 : decide (64 < H) = false := by simp; omega
    by_cases hgn : (G.length : Int) = n
    · by_cases hpn : (P.length : Int) = n
      · have hgl2 : G.length ≤ 4096 := by omega
        have hgp : G.length = P.length := by omega
        have q5 : ((G.length : Int) != n) = false := by simp [hgn]
        have q6 : ((P.length : Int) != n) = false := by simp [hpn]
        have HN := Lib.hid hn
        have HG := Lib.hid hgn
        have HP := Lib.hid hpn
        have HGP := Lib.hid hgp
        clear hgn hpn hgp
        obtain ⟨c0, c1, c2, c3⟩ := x0.c4
        go_enter Tryz.func35, Tryz.ntmps35
        go_wp2_with fail
        rw [HW.out]
        go_loop [4] (fun i => ∃ k : Nat, k ≤ G.length ∧ i = .int .i64 k ∧ Hid (∀ j (hg : j < G.length) (hp : j < P.length), j < k → ((0 ≤ G[j] ∧ G[j] ≤ 9000) ∧ (0 ≤ P[j] ∧ P[j] ≤ 1000000)))) (fun i => G.length - (intOf i).toNat)
        case atStart => exact ⟨0, Nat.zero_le _, rfl, Lib.hid (fun j _ _ h => absurd h (by omega))⟩
        case round =>
          clear q1 q2 q3 q4 q5 q6 hn
          obtain ⟨k, hk, rfl, HK⟩ := hrel
          by_cases hlt : k < G.length
          · have hlt2 : k < P.length := by have := HGP.out; omega
            obtain ⟨ga, rfl, hgb, e0⟩ := hg1.int_at hlt
            obtain ⟨pa, rfl, hpb, e1⟩ := hp1.int_at hlt2
            have hkn : (k : Int) < n := by have := HG.out; omega
            have HA : Hid (¬ ((0 ≤ G[k] ∧ G[k] ≤ 9000) ∧ (0 ≤ P[k] ∧ P[k] ≤ 1000000)) → false = M.tvalid W H G P) := Lib.hid (fun h => (M.tvalid_at hlt hlt2 h).symm)
            have HK2 : Hid ((0 ≤ G[k] ∧ G[k] ≤ 9000) ∧ (0 ≤ P[k] ∧ P[k] ≤ 1000000) → ∀ j (hg : j < G.length) (hp : j < P.length), j < k + 1 → ((0 ≤ G[j] ∧ G[j] ≤ 9000) ∧ (0 ≤ P[j] ∧ P[j] ≤ 1000000))) := Lib.hid (fun h j h1 h2 h3 => by
              by_cases e : j = k
              · subst e; exact h
              · exact HK.out j h1 h2 (by omega))
            generalize G[k] = g at *
            generalize P[k] = p at *
            by_cases b1 : decide (g < 0) = true
            · have b1' : g < 0 := by simpa using b1
              go_wp2_with fail
              go_ret
              exact ⟨ret_bool (HA.out (by omega)), hB⟩
            · have b1' : decide (g < 0) = false := by simpa using b1
              by_cases b2 : decide (9000 < g) = true
              · have b2' : 9000 < g := by simpa using b2
                clear b1
                go_wp2_with fail
                go_ret
                exact ⟨ret_bool (HA.out (by omega)), hB⟩
              · have b2' : decide (9000 < g) = false := by simpa using b2
                by_cases b3 : decide (p < 0) = true
                · have b3' : p < 0 := by simpa using b3
                  clear b1 b2
                  go_wp2_with fail
                  go_ret
                  exact ⟨ret_bool (HA.out (by omega)), hB⟩
                · have b3' : decide (p < 0) = false := by simpa using b3
                  by_cases b4 : decide (1000000 < p) = true
                  · have b4' : 1000000 < p := by simpa using b4
                    clear b1 b2 b3
                    go_wp2_with fail
                    go_ret
                    exact ⟨ret_bool (HA.out (by omega)), hB⟩
                  · have b4' : decide (1000000 < p) = false := by simpa using b4
                    have hok : (0 ≤ g ∧ g ≤ 9000) ∧ (0 ≤ p ∧ p ≤ 1000000) := by simp at b1 b2 b3 b4; omega
                    clear b1 b2 b3 b4
                    go_wp2_with fail
                    go_round
                    case rel => exact ⟨k + 1, hlt, by go_num, Lib.hid (HK2.out hok)⟩
                    case measure => simp [intOf]; omega
          · have hkl : k = G.length := by omega
            have HF : Hid (true = M.tvalid W H G P) := Lib.hid (M.tvalid_all a1 a2 (by rw [HN.out]; exact HG.out) (by rw [HN.out]; exact HP.out) (fun j h1 h2 => HK.out j h1 h2 (by omega))).symm
            have hkn : n ≤ (k : Int) := by have := HG.out; omega
            clear hkl
            go_wp2_with fail
            go_ret
            exact ⟨ret_bool HF.out, hB⟩
      · have HF : Hid (false = M.tvalid W H G P) := Lib.hid (by unfold M.tvalid; rw [hn]; simp [hpn])
        have q5 : ((G.length : Int) != n) = false := by simp [hgn]
        have q6 : ((P.length : Int) != n) = true := by simp [hpn]
        clear hgn hpn
        go_enter Tryz.func35, Tryz.ntmps35
        go_wp2_with fail
        go_ret
        exact ⟨ret_bool HF.out, by rw [HW.out]; exact hB⟩
    · have HF : Hid (false = M.tvalid W H G P) := Lib.hid (by unfold M.tvalid; rw [hn]; simp [hgn])
      have q5 : ((G.length : Int) != n) = true := by simp [hgn]
      clear hgn
      go_enter Tryz.func35, Tryz.ntmps35
      go_wp2_with fail
      go_ret
      exact ⟨ret_bool HF.out, by rw [HW.out]; exact hB⟩
  · have HF : Hid (false = M.tvalid W H G P) := Lib.hid (by
      cases hv : M.tvalid W H G P with
      | false => rfl
      | true => obtain ⟨b1, b2, _⟩ := M.tvalid_iff.1 hv; exact absurd ⟨b1, b2⟩ hr)
    have h' : W < 1 ∨ 64 < W ∨ H < 1 ∨ 64 < H := by omega
    clear hr
    go_enter Tryz.func35, Tryz.ntmps35
    go_wp2_with fail
    all_goals
      first
        | (go_ret
           exact ⟨ret_bool HF.out, by rw [HW.out]; exact hB⟩)
        | (exfalso; omega)
def M.has (W H : Int) (G P : List Int) (x y : Int) : Bool := M.tvalid W H G P && M.inside W H x y

set_option maxHeartbeats 4000000 in
theorem rHas_any (W H : Int) (GA PA : Option Addr) (gc pc : Nat) (G P : List Int) (x y : Int) (w : World) (hg : Sl 1 icell w w.heap.size GA G) (hp : Sl 1 icell w w.heap.size PA P) (hgl : G.length ≤ 9223372036854775806) :
    Calls Tryz.prog 37 #[tv W H GA PA G.length gc P.length pc, cv x y] w fun e w' => e = .returned (.bool (M.has W H G P x y)) ∧ Below w.heap.size w w' := by
  obtain ⟨V, HW, x0, x1, hB, -⟩ := boxes2 w #[.int .i64 W, .int .i64 H, .slice GA G.length gc, .slice PA P.length pc] 24 #[.int .i64 x, .int .i64 y] 60
  have hg1 := (hg.below hB).more hB.size
  have hp1 := (hp.below hB).more hB.size
  obtain ⟨r, hr⟩ : ∃ r, M.has W H G P x y = r := ⟨_, rfl⟩
  have HR := Lib.hid hr
  rw [hr]
  clear hr
  go_enter Tryz.func37, Tryz.ntmps37
  go_wp2_with fail
  rw [HW.out]
  refine (rValid_any W H GA PA gc pc G P V hg1 hp1 hgl).mono ?_
  rintro e w1 ⟨rfl, hb1⟩
  have B1 := after_ hB hb1
  obtain ⟨c0, c1, c2, c3⟩ := (x0.below hb1).c4
  obtain ⟨d0, d1⟩ := (x1.below hb1).c2
  cases hv : M.tvalid W H G P with
  | false =>
    have HF : Hid (false = r) := Lib.hid (by rw [← HR.out]; unfold M.has; rw [hv]; rfl)
    go_wp2_with fail
    go_ret
    exact ⟨ret_bool HF.out, B1⟩
  | true =>
    have HF : Hid (r = true ↔ (0 ≤ x ∧ x < W) ∧ (0 ≤ y ∧ y < H)) := Lib.hid (by rw [← HR.out]; unfold M.has; rw [hv, Bool.true_and]; exact M.inside_iff)
    by_cases b1 : 0 ≤ x
    · by_cases b2 : x < W
      · by_cases b3 : 0 ≤ y
        · have HE : Hid (decide (y < H) = r) := Lib.hid (by rw [Bool.eq_iff_iff, HF.out]; simp; omega)
          have q1 : decide (0 ≤ x) = true := by simp; omega
          have q2 : decide (x < W) = true := by simp; omega
          have q3 : decide (0 ≤ y) = true := by simp; omega
          obtain ⟨q, hq⟩ : ∃ q, decide (y < H) = q := ⟨_, rfl⟩
          rw [hq] at HE
          clear b1 b2 b3
          go_wp2_with fail
          go_ret
          exact ⟨ret_bool HE.out, B1⟩
        · have HE : Hid (false = r) := Lib.hid (by rw [Bool.eq_iff_iff, HF.out]; simp; omega)
          have q1 : decide (0 ≤ x) = true := by simp; omega
          have q2 : decide (x < W) = true := by simp; omega
          have q3 : decide (0 ≤ y) = false := by simp; omega
          clear b1 b2 b3
          go_wp2_with fail
          go_ret
          exact ⟨ret_bool HE.out, B1⟩
      · have HE : Hid (false = r) := Lib.hid (by rw [Bool.eq_iff_iff, HF.out]; simp; omega)
        have q1 : decide (0 ≤ x) = true := by simp; omega
        have q2 : decide (x < W) = false := by simp; omega
        clear b1 b2
        go_wp2_with fail
        go_ret
        exact ⟨ret_bool HE.out, B1⟩
    · have HE : Hid (false = r) := Lib.hid (by rw [Bool.eq_iff_iff, HF.out]; simp; omega)
      have q1 : decide (0 ≤ x) = false := by simp; omega
      clear b1
      go_wp2_with fail
      go_ret
      exact ⟨ret_bool HE.out, B1⟩
end Go.Proofs.YtohkbblfcjmmnaaGreatDoor
