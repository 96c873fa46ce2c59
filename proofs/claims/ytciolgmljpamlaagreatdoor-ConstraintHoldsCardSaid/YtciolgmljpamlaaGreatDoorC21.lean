/- A bundle of texts: Cells. -/
import Derived.Test.YtciolgmljpamlaaGreatDoorC20
import Derived.RangeFuncNested
import Derived.RangeFuncBound
import Derived.RangeFuncCalls
import Derived.RangeFuncLeaves
import Derived.WalkKit
import Derived.OwnWalkIn
import Derived.TacticsInMore
section
namespace Go.Proofs.YtciolgmljpamlaaGreatDoor
open Go Go.RowKit Go.Shelf
set_option maxRecDepth 100000
def M.cx (W : Int) (i : Nat) : Int := (i : Int) % W
def M.cy (W : Int) (i : Nat) : Int := (i : Int) / W
def M.areaTo (W : Int) (G : List Int) (s : St) (n : Nat) : List Int := ((List.range n).filter fun (i : Nat) => M.cov W G s (M.cx W i) (M.cy W i)).map fun (i : Nat) => (i : Int)
def M.area (W H : Int) (G : List Int) (s : St) : List Int := M.areaTo W G s (W * H).toNat
theorem M.areaTo_succ (W : Int) (G : List Int) (s : St) (n : Nat) : M.areaTo W G s (n + 1) = M.areaTo W G s n ++ if M.cov W G s (M.cx W n) (M.cy W n) then [(n : Int)] else [] := by
  unfold M.areaTo
  rw [List.range_succ, List.filter_append, List.map_append]
  congr 1
  by_cases h : M.cov W G s (M.cx W n) (M.cy W n) = true
  · simp [h]
  · simp [h]
theorem M.areaTo_len (W : Int) (G : List Int) (s : St) (n : Nat) : (M.areaTo W G s n).length ≤ n := by
  unfold M.areaTo
  rw [List.length_map]
  have := List.length_filter_le (fun i => M.cov W G s (M.cx W i) (M.cy W i)) (List.range n)
  simpa using this
def M.okS (W H : Int) (G P : List Int) (s : St) : Bool := M.okF W H G P s s.x s.y
theorem M.okS_iff {W H : Int} {G P : List Int} {s : St} : M.okS W H G P s = true ↔ M.svalid s = true ∧ M.tvalid W H G P = true ∧ s.x < W ∧ s.y < H := by
  unfold M.okS
  rw [M.okF_eq]
  unfold M.has
  simp only [Bool.and_eq_true]
  constructor
  · rintro ⟨⟨a, b, c⟩, -⟩
    have := M.inside_iff.1 c
    exact ⟨a, b, this.1.2, this.2.2⟩
  · rintro ⟨a, b, c, d⟩
    obtain ⟨_, h2, h3, _⟩ := M.svalid_iff.1 a
    have := M.inside_iff.2 ⟨⟨h2.1, c⟩, h3.1, d⟩
    exact ⟨⟨a, b, this⟩, b, this⟩
theorem M.okS_F {W H : Int} {G P : List Int} {s : St} {cx cy : Int} (h : M.okS W H G P s = true) (h1 : 0 ≤ cx) (h2 : cx < W) (h3 : 0 ≤ cy) (h4 : cy < H) : M.okF W H G P s cx cy = true := by
  obtain ⟨a, b, c, d⟩ := M.okS_iff.1 h
  have hh : M.has W H G P cx cy = true := by
    unfold M.has
    rw [b, Bool.true_and]
    exact M.inside_iff.2 ⟨⟨h1, h2⟩, h3, h4⟩
  exact (M.okF_iff hh).2 ⟨a, c, d⟩
theorem M.cell_in {W H : Int} (h1 : 1 ≤ W) {i : Nat} (hi : (i : Int) < W * H) : (0 ≤ M.cx W i ∧ M.cx W i < W) ∧ 0 ≤ M.cy W i ∧ M.cy W i < H := by
  unfold M.cx M.cy
  refine ⟨⟨Int.emod_nonneg _ (by omega), Int.emod_lt_of_pos _ (by omega)⟩, Int.ediv_nonneg (by omega) (by omega), ?_⟩
  exact Int.ediv_lt_of_lt_mul (by omega) (by rw [Int.mul_comm]; exact hi)
theorem M.wh_le {W H : Int} (h1 : 1 ≤ W ∧ W ≤ 64) (h2 : 1 ≤ H ∧ H ≤ 64) : 1 ≤ W * H ∧ W * H ≤ 4096 := by
  have a : W * H ≤ 64 * 64 := Int.mul_le_mul h1.2 h2.2 (by omega) (by omega)
  have b : 0 < W * H := Int.mul_pos (by omega) (by omega)
  omega
theorem below_grown {w w' : World} (hb : Below w.heap.size w w') : w.grownBy w' none := ⟨hb.os, hb.tape, hb.output, hb.size, fun k hk _ => hb.block k hk⟩
set_option maxHeartbeats 16000000 in
theorem cells1_gives {w : World} {bt bs : Nat} {W H : Int} {GA PA : Option Addr} {gc pc : Nat} {G P : List Int} {s : St} {A : Option Addr} {c : Nat} (h : Capt w bt bs W H GA PA gc pc G P s A c) (b1 b2 : Nat) (hb1 : Box w b1 #[.int .i64 W, .int .i64 H, .slice GA G.length gc, .slice PA P.length pc] 24) (ca : Option Addr) (cc : Nat) (hb2 : Box w b2 #[.slice ca 1 cc] 158) (hca : Sl 1 vcell w w.heap.size ca [fv bt bs]) (hok : M.okS W H G P s = true) :
    SeqBel Fence.wide 9 Tryz.prog 122 #[.pointer (some ⟨b1, 0, none⟩), .pointer (some ⟨b2, 0, none⟩)] encI (fun xs => xs = M.area W H G s) (W * H).toNat w := by
  intro l J V hV hJ hJb hY h0
  refine callsIn_wide.2 ?_
  obtain ⟨hsv, htv, -, -⟩ := M.okS_iff.1 hok
  obtain ⟨r1, r2, -⟩ := M.tvalid_iff.1 htv
  obtain ⟨w1, w2⟩ := M.wh_le r1 r2
  obtain ⟨n, hn⟩ : ∃ n : Nat, W * H = n := ⟨(W * H).toNat, by omega⟩
  have HN := Lib.hid hn
  have HOK := Lib.hid hok
  clear hok hsv htv hn
  have hn4 : n ≤ 4096 := by have := HN.out; omega
  have HNT : Hid ((W * H).toNat = n) := Lib.hid (by have := HN.out; omega)
  rw [HNT.out] at hY
  have HA : Hid (M.area W H G s = M.areaTo W G s n) := Lib.hid (by unfold M.area; rw [HNT.out])
  have hmul : W * H = (n : Int) := HN.out
  obtain ⟨c0, c1, c2, c3⟩ := ((h.below hV).bt |> fun _ => hb1.below hV).c4
  have hmf := hmfA
  go_enter Tryz.func122, Tryz.ntmps122
  go_wp2_with fail
  clear c0 c1 c2 c3
  go_loopw [4, 5, 6, 12] (fun _ _ _ i wr => ∃ k : Nat, k ≤ n ∧ i = .int .i64 k ∧ J (M.areaTo W G s k) wr) (fun _ _ _ i _ => n - (intOf i).toNat)
  case atStart => exact ⟨0, Nat.zero_le _, rfl, h0⟩
  case round =>
    obtain ⟨k, hk, rfl, hJk⟩ := hrel
    by_cases hlt : k < n
    · have hB := hJb _ _ hJk
      have x1 := hb1.below hB
      obtain ⟨c0, c1, c2, c3⟩ := x1.c4
      obtain ⟨hin1, hin2⟩ := M.cell_in (W := W) (H := H) (i := k) (by omega) (by rw [hmul]; omega)
      have l1 := x1.lt
      have D0 : wr.drew.cell? ⟨b1, 0, none⟩ = some (.int .i64 W) := c0
      have D1 : ∀ o, (wr.alloc o).drew.cell? ⟨b1, 0, none⟩ = some (.int .i64 W) := fun o => ((((Below.refl wr.heap.size wr).alloc (Nat.le_refl _) o).drew).cell (p := ⟨b1, 0, none⟩) l1).trans c0
      have hW0 : W ≠ 0 := by omega
      clear c1 c2 c3
      refine (wpIn_wide (n := 9)).1 ?_
      gi_wp2_with fail
      refine wpIn_wide.2 ?_
      go_region_held3 (fun w' => w'.cell? ⟨b1, 0, none⟩ = some (.int .i64 W)) (first | with_reducible exact D0 | with_reducible exact c0 | exact D1 _) (fail)
      all_goals
        have e1 : (k : Int).tmod W = M.cx W k := by unfold M.cx; exact Int.tmod_eq_emod_of_nonneg (by omega)
        have e2 : IntKind.i64.wrap ((k : Int) / W) = M.cy W k := by
          have h3 : M.cy W k = (k : Int) / W := rfl
          rw [← h3]
          have : M.cy W k ≤ 64 := by omega
          generalize M.cy W k = z at *
          unfold IntKind.wrap
          simp [IntKind.bits, IntKind.signed]
          omega
        rw [e1, e2]
        obtain ⟨U, HU, u0, hBU, -⟩ := boxes1 wr #[.int .i64 (M.cx W k), .int .i64 (M.cy W k)] 113
        rw [HU.out]
        have hBD : Below wr.heap.size wr U.drew := hBU.drew
        have u1 : Box U.drew wr.heap.size #[.int .i64 (M.cx W k), .int .i64 (M.cy W k)] 113 := u0
        have B2 := after_ hB hBD
        have hc2 := (h.below hB).below hBD
        have kk := containsFunc_ok hc2 wr.heap.size (M.cx W k) (M.cy W k) u1 (M.okS_F HOK.out hin1.1 hin1.2 hin2.1 hin2.2) ca cc ((hca.below B2).more B2.size)
        have k2 := (hb2.below B2).c1
        have hJ2 : J (M.areaTo W G s k) U.drew := hJ _ _ _ none hJk (below_grown hBD) (fun r e => by cases e)
        unfold rv at kk
        have hmf := hmfA
        gi_wp2_with fail
        refine ⟨trivial, (callsIn_wide.2 kk).mono ?_⟩
        rintro e w5 ⟨rfl, hb5⟩
        have hJ5 : J (M.areaTo W G s k) w5 := hJ _ _ _ none hJ2 (below_grown hb5) (fun r e => by cases e)
        have hlen : (M.areaTo W G s k).length < n := Nat.lt_of_le_of_lt (M.areaTo_len W G s k) hlt
        cases hcv : M.cov W G s (M.cx W k) (M.cy W k) with
        | false =>
          have HS2 : Hid (M.areaTo W G s (k + 1) = M.areaTo W G s k) := Lib.hid (by rw [M.areaTo_succ, hcv]; simp)
          gi_wp2_with fail
          go_roundw
          case rel => exact ⟨k + 1, hlt, by go_num, by rw [HS2.out]; exact hJ5⟩
          case measure => simp [intOf]; omega
        | true =>
          have HS2 : Hid (M.areaTo W G s (k + 1) = M.areaTo W G s k ++ [(k : Int)]) := Lib.hid (by rw [M.areaTo_succ, hcv]; simp)
          obtain ⟨fn, tmps, assign, body, hy, hR⟩ := hY (M.areaTo W G s k) (k : Int) w5 hJ5 hlen
          clear hY
          gi_wp2_with fail
          refine hR.mono ?_
          rintro e W3 ⟨rfl, hJ3, -⟩
          gi_wp2_with fail
          go_roundw
          case rel => exact ⟨k + 1, hlt, by go_num, by rw [HS2.out]; exact hJ3⟩
          case measure => simp [intOf]; omega
    · obtain rfl : k = n := by omega
      go_wp2_with fail
      go_end0
      exact ⟨⟨_, rfl⟩, _, HA.out.symm, hJk⟩
end Go.Proofs.YtciolgmljpamlaaGreatDoor
end
