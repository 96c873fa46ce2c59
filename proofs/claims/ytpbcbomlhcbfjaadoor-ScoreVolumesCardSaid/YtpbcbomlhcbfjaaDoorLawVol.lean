/- The walk of the law ScoreVolumes: it returns true. -/
import Derived.Test.YtpbcbomlhcbfjaaDoorRefVol
import Derived.Test.YtpbcbomlhcbfjaaDoorLaws1
namespace Go.Proofs.YtpbcbomlhcbfjaaDoor
open Go Go.RowKit

/-- Equal weights with rising stations. -/
def M.row (n : Nat) : List Wt := (List.range n).map fun (i : Nat) => ((i : Int), (1 : Int), (1 : Int))
theorem M.row_length (n : Nat) : (M.row n).length = n := by simp [M.row]
theorem M.row_at {n k : Nat} (h : k < (M.row n).length) : (M.row n)[k] = ((k : Int), (1 : Int), (1 : Int)) := by simp [M.row]
theorem M.row_succ (n : Nat) : M.row (n + 1) = M.row n ++ [((n : Int), (1 : Int), (1 : Int))] := by
  unfold M.row; rw [List.range_succ, List.map_append]; rfl
theorem M.row_ok {n : Nat} (h : n ≤ 512) : M.okB (M.row n) = true := by
  refine M.okB_true fun i hi _ => ⟨?_, fun h0 => ?_⟩
  · rw [M.row_at]
    have : i < n := by simpa [M.row] using hi
    simp only [M.wOk, M.wtB, decide_eq_true_eq]; omega
  · rw [M.row_at, M.row_at]
    show ((i - 1 : Nat) : Int) < (i : Int)
    omega
theorem M.row_not {n : Nat} (h : 512 < n) : M.okB (M.row n) = false := by
  refine M.not_ok1 (k := 512) (by rw [M.row_length]; exact h) ?_
  rw [M.row_at]; decide
theorem M.row_most (n k : Nat) (hk : k + 1 ≤ n) : M.mostTo (M.row n) (k + 1) = 1 := by
  have r1 : M.raw (((k : Nat) : Int), (1 : Int), (1 : Int)) = 1 := (by decide +kernel : M.rt (1 * 1) = 1)
  induction k with
  | zero => rw [M.mostTo_succ (by rw [M.row_length]; omega), M.row_at]; show max 0 (M.rt (1 * 1)) = 1; decide +kernel
  | succ k ih =>
    rw [M.mostTo_succ (by rw [M.row_length]; omega), ih (by omega) (by exact (by decide +kernel : M.rt (1 * 1) = 1)), M.row_at]
    show max 1 (M.rt (1 * 1)) = 1
    decide +kernel
theorem M.row_vols {n : Nat} (h : n ≤ 512) (h0 : 0 < n) : M.vols (M.row n) = (List.range n).map (fun (i : Nat) => ((i : Int), (1000000 : Int))) ∧ M.volsE (M.row n) = 0 := by
  have ho := M.row_ok h
  have hm : M.most (M.row n) = 1 := by
    unfold M.most
    obtain ⟨m, rfl⟩ : ∃ m, n = m + 1 := ⟨n - 1, by omega⟩
    rw [M.row_length]
    exact M.row_most _ _ (Nat.le_refl _)
  refine ⟨?_, by simp [M.volsE, ho]⟩
  unfold M.vols
  rw [if_pos ho, hm]
  unfold M.row
  rw [List.map_map]
  apply List.map_congr_left
  intro i _
  show ((i : Int), M.vol 1 ((i : Int), 1, 1)) = _
  have : M.vol 1 ((i : Int), (1 : Int), (1 : Int)) = 1000000 := by
    unfold M.vol
    rw [if_neg (by decide)]
    exact (by decide +kernel : max 1 (M.rt (1 * 1) * 1000000 / 1) = 1000000)
  rw [this]

@[go_sem] theorem eqWt (a b c d e f : Int) (w : World) : (Op.equalIn 10000 29 (.agg #[.int .i64 a, .int .i64 b, .int .i64 c]) (.agg #[.int .i64 d, .int .i64 e, .int .i64 f])).run Tryd.prog w = .ok (a == d && b == e && c == f) w := by
  have u3 := Tryd.underlying3
  have hS : Tryd.prog.underlying 29 = some (.struct (Tryd.prog.fieldsOf 29)) := by kernel_rfl
  have hp : Tryd.prog.stoodInHeld 29 = false := by kernel_rfl
  rw [show (10000 : Nat) = 9999 + 1 from rfl, run_equalIn_agg w 9999 29 _ _ hS hp]
  simp only [Program.fieldsOf, Tryd.underlying29]
  go_simp
  by_cases h1 : a = d <;> by_cases h2 : b = e <;> by_cases h3 : c = f <;> simp [h1, h2, h3]
@[go_sem] theorem guardWt : Tryd.prog.eqGuardType Tryd.prog.depth 29 = false := by kernel_rfl
theorem w_one (x : Wt) (j : Nat) : (wcell x j).oneCell' = true := by unfold wcell; split; rfl; split <;> rfl
theorem vols_len (xs : List Wt) : (M.vols xs).length ≤ xs.length := by unfold M.vols; split <;> simp

set_option maxRecDepth 100000 in
set_option maxHeartbeats 4000000 in
theorem scoreVolumes_walk (A : Option Addr) (c : Nat) (xs : List Wt) (many : Int) (w : World) (ht : Tab w) (ha : Sl 3 wcell w w.heap.size A xs) (lx : xs.length ≤ 9223372036854775807) :
    Calls Tryd.prog 5 #[.slice A xs.length c, .int .i64 many] w (LawTrue w) := by
  by_cases hbig : 40 < xs.length
  · go_enter Tryd.func5, Tryd.ntmps5
    go_wp2_with fail
    refine (known_any _ ht).mono ?_
    rintro e w1 ⟨rfl, hb⟩
    go_wp2_with fail
    go_ret
    exact ⟨rfl, hb⟩
  · obtain ⟨i0, hi, hz0, hz1, hz2⟩ := info_parts wtInfo
    have Hi := Lib.hid hi; have Hz0 := Lib.hid hz0; have Hz1 := Lib.hid hz1; have Hz2 := Lib.hid hz2
    clear hi hz0 hz1 hz2
    go_enter Tryd.func5, Tryd.ntmps5
    go_wp2_with (at_builtin; refine wpList_append_sl _ (w0 := w) (cell := wcell) rfl _ _ _ rfl w.heap.size w.heap.size 29 i0 _ 24 Tryd.underlying34 Hi.out Hz0.out Hz1.out Hz2.out rfl (by decide) (.slice none 0 0) 0 [] rfl (own_nil _ _ _ _ _) _ _ _ xs rfl ha w_one (by unfold maxLen; omega) (by omega) (Nat.le_refl _) (Nat.le_refl _) (Below.refl _ _) ?_; intro v1 w1 hown1 hb1 _)
    obtain ⟨A1, c1, rfl, hS1⟩ := own_slice (by decide) hown1
    simp only [List.nil_append] at hS1 ⊢
    clear hown1
    refine (volumes_any _ _ _ _ hS1 (by omega)).mono ?_
    rintro e w2 ⟨A2, c2, rfl, hS2, hb2⟩
    have b2 := after_ hb1 hb2
    have hS1b := hS1.below hb2
    go_wp2_with fail
    refine (refVolumes_any _ _ _ _ ((ha.below b2).more b2.size) (by omega)).mono ?_
    rintro e w3 ⟨A3, c3, rfl, hS3, hb3⟩
    have b3 := after_ b2 hb3
    have hS2c := (hS2.below hb3).more hb3.size
    have hS1c := ((hS1b.more hb2.size).below hb3).more hb3.size
    have hac := (ha.below b3).more b3.size
    have hvl := vols_len xs
    clear hS1 hS2 hS1b hb1 hb2 hb3 b2 ha
    generalize M.vols xs = L at *
    generalize M.volsE xs = r4 at *
    go_wp2_with fail
    go_loopw [10] (fun i wr => ∃ k nd : Nat, k ≤ xs.length ∧ i = .int .i64 k ∧ wr = w3.drewN nd) (fun i _ => xs.length - (intOf i).toNat)
    case atStart => exact ⟨0, 0, Nat.zero_le _, rfl, rfl⟩
    case round =>
      obtain ⟨k, nd, hk, rfl, rfl⟩ := hrel
      by_cases hlt : k < xs.length
      · obtain ⟨ad1, rfl, _, d1, hd1⟩ := hS1c.sp (by omega) hlt
        obtain ⟨ad, rfl, _, c1, hc1⟩ := hac.sp (by omega) hlt
        have c2 := hc1 1 (by omega) (by omega)
        have c3 := hc1 2 (by omega) (by omega)
        have d2 := hd1 1 (by omega) (by omega)
        have d3 := hd1 2 (by omega) (by omega)
        clear hc1 hd1
        obtain ⟨⟨s, l, p⟩, hX⟩ : ∃ x, xs[k] = x := ⟨_, rfl⟩
        rw [hX] at c1 c2 c3 d1 d2 d3
        simp [wcell] at c1 c2 c3 d1 d2 d3
        clear hX
        go_wp2_with fail
        go_quiet (fail)
        go_wp2_with fail
        go_roundw
        case rel => exact ⟨k + 1, _, hlt, by go_num, rfl⟩
        case measure => simp [intOf]; omega
      · clear hS1c hac
        have b4 := below_drewN b3 nd
        have t4 := ht.kept b4
        go_wp2_with fail
        refine (sameVolumes_any _ _ _ _ _ _ _ _ (hS2c.drewN nd) (hS3.drewN nd) (by omega)).mono ?_
        rintro e w5 ⟨rfl, n5, rfl⟩
        rw [decide_eq_true rfl]
        have b5 := below_drewN b4 n5
        have t5 := ht.kept b5
        clear b3 b4 t4 hS2c hS3
        generalize (w3.drewN nd).drewN n5 = w5 at *
        by_cases hm : 500 ≤ many ∧ many ≤ 520
        · obtain ⟨hm1, hm2⟩ := hm
          obtain ⟨N, rfl⟩ := Int.eq_ofNat_of_zero_le (show 0 ≤ many by omega)
          go_wp2_with fail
          go_loopw [11, 12] (fun v i wr => ∃ k : Nat, k ≤ N ∧ i = .int .i64 k ∧ Below w.heap.size w wr ∧ wr.ownsRow w.heap.size 29 3 v k (flat 3 wcell (M.row k))) (fun _ i _ => N - (intOf i).toNat)
          case atStart => exact ⟨0, Nat.zero_le _, rfl, b5, own_nil _ _ _ _ _⟩
          case round =>
            clear b5 t5 hlt hk
            obtain ⟨k, hk, rfl, hB, hown⟩ := hrel
            by_cases hlt : k < N
            · have HR := Lib.hid (M.row_succ k)
              go_wp2_with (at_builtin; refine wpList_push (w0 := w) (cell := wcell) (y := ((k : Int), (1 : Int), (1 : Int))) rfl _ _ _ rfl w.heap.size w.heap.size 29 i0 _ 24 Tryd.underlying34 Hi.out Hz0.out Hz1.out Hz2.out rfl (by decide) _ k _ rfl hown _ _ rfl _ rfl (w_one _) (by unfold maxLen; omega) (by omega) hB.size (Nat.le_refl _) hB ?_; intro v' w' hown' hb' _)
              go_roundw
              case rel => exact ⟨k + 1, by omega, by go_num, hb', by rw [HR.out]; exact hown'⟩
              case measure => simp [intOf]; omega
            · obtain rfl : k = N := by omega
              obtain ⟨A6, c6, rfl, hS6⟩ := own_slice (by decide) hown
              rw [M.row_length] at *
              have t6 := ht.kept hB
              clear hown hlt hk
              go_wp2_with fail
              have hv := volumes_any A6 c6 (M.row k) _ hS6 (by rw [M.row_length]; omega)
              rw [M.row_length] at hv
              refine hv.mono ?_
              rintro e w7 ⟨A7, c7, rfl, hS7, hb7⟩
              have b7 := after_ hB hb7
              have t7 := ht.kept b7
              clear hv hB t6 hb7 hS6
              by_cases h512 : 512 < k
              · have HV : Hid (M.vols (M.row k) = [] ∧ M.volsE (M.row k) = 2) := Lib.hid (by simp [M.vols, M.volsE, M.row_not h512])
                rw [HV.out.1, HV.out.2]
                clear hS7
                go_wp2_with fail
                refine (known_any _ t7).mono ?_
                rintro e w8 ⟨rfl, hb⟩
                go_wp2_with fail
                go_ret
                exact ⟨rfl, after_ b7 hb⟩
              · have HV := Lib.hid (M.row_vols (n := k) (by omega) (by omega))
                rw [HV.out.1] at hS7
                rw [HV.out.1, HV.out.2]
                simp only [List.length_map, List.length_range]
                obtain ⟨ad, rfl, hbl, _, hc1⟩ := hS7.sp (k := k - 1) (by omega) (by simp; omega)
                have c2 := hc1 1 (by omega) (by omega)
                simp [vcell] at c2
                clear hc1 hS7
                have hbeq : ((k : Int) == (k : Int)) = true := by simp
                go_wp2_with fail
                refine (known_any _ t7).mono ?_
                rintro e w8 ⟨rfl, hb⟩
                go_wp2_with fail
                go_ret
                exact ⟨rfl, after_ b7 hb⟩
        · have hm' : many < 500 ∨ 520 < many := by omega
          clear hm
          go_wp2_with fail
          all_goals
            refine (known_any _ t5).mono ?_
            rintro e w6 ⟨rfl, hb⟩
            go_wp2_with fail
            go_ret
            exact ⟨rfl, after_ b5 hb⟩
end Go.Proofs.YtpbcbomlhcbfjaaDoor
