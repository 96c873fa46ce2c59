/- Layer 13: the reference's Twice and Sort. -/
import Derived.Test.YtfcaikahdcpglaaDoorSort
namespace Go.Proofs.YtfcaikahdcpglaaDoor
open Go Go.RowKit
set_option maxRecDepth 100000

theorem M.twice_id {es : List SE} : M.twice (es.map (·.s)) = decide (¬ (es.map (·.s.id)).Nodup) := by
  unfold M.twice
  rw [List.map_map]
  rfl
def M.rsortTo (es : List SE) (n : Nat) : List SE := (List.range n).flatMap fun (i : Nat) => es.filter fun e => decide (e.s.id = (i : Int))
theorem M.rsortTo_succ (es : List SE) (n : Nat) : M.rsortTo es (n + 1) = M.rsortTo es n ++ es.filter fun e => decide (e.s.id = (n : Int)) := by
  unfold M.rsortTo
  rw [List.range_succ, List.flatMap_append]
  simp
theorem M.rsort_mem {es : List SE} {n : Nat} {e : SE} (h : e ∈ M.rsortTo es n) : e ∈ es := by
  unfold M.rsortTo at h
  rw [List.mem_flatMap] at h
  obtain ⟨_, _, h⟩ := h
  exact (List.mem_filter.1 h).1
theorem M.filt_one {es : List SE} (hn : (es.map (·.s.id)).Nodup) (n : Int) : (es.filter fun e => decide (e.s.id = n)).map (·.s) = ((es.map (·.s)).find? fun s => decide (s.id = n)).toList := by
  induction es with
  | nil => rfl
  | cons e es ih =>
    rw [List.map_cons, List.nodup_cons] at hn
    rw [List.filter_cons, List.map_cons, List.find?_cons]
    by_cases h : e.s.id = n
    · have h2 : es.filter (fun e => decide (e.s.id = n)) = [] := by
        rw [List.filter_eq_nil_iff]
        intro x hx hd
        rw [decide_eq_true_eq] at hd
        exact hn.1 (List.mem_map.2 ⟨x, hx, by rw [hd, h]⟩)
      simp [h, h2]
    · simp only [h, decide_false]
      exact ih hn.2
theorem M.rsort_map {es : List SE} (h : M.twice (es.map (·.s)) = false) (n : Nat) : (M.rsortTo es n).map (·.s) = M.sortTo (es.map (·.s)) n := by
  rw [M.twice_id, decide_eq_false_iff_not, Decidable.not_not] at h
  induction n with
  | zero => rfl
  | succ n ih => rw [M.rsortTo_succ, M.sortTo_succ, List.map_append, ih, M.filt_one h]

set_option maxHeartbeats 8000000 in
theorem rTwice_any (LA : Option Addr) (lc : Nat) (es : List SE) (w : World) (hL : Sl 8 secell w w.heap.size LA es) (hl : es.length ≤ 1000) :
    Calls Tryd.prog 21 #[.slice LA es.length lc] w fun e w' => e = .returned (.bool (M.twice (es.map (·.s)))) ∧ Below w.heap.size w w' := by
  have HY : Hid (∀ i j (hi : i < es.length) (hj : j < es.length), i < j → es[i].s.id = es[j].s.id → true = M.twice (es.map (·.s))) := Lib.hid (fun i j hi hj hij h => (M.twice_of (i := i) (j := j) (by simpa using hi) (by simpa using hj) hij (by simpa using h)).symm)
  have HNO : Hid ((∀ i j (hi : i < es.length) (hj : j < es.length), i < j → j < es.length → es[i].s.id ≠ es[j].s.id) → false = M.twice (es.map (·.s))) := Lib.hid (fun h => (M.twice_not (fun i j hi hj hij hk => by simpa using h i j (by simpa using hi) (by simpa using hj) hij (by simpa using hj))).symm)
  generalize M.twice (es.map (·.s)) = r at *
  go_enter Tryd.func21, Tryd.ntmps21
  go_wp2_with fail
  go_loopw [3] (fun i wr => ∃ k : Nat, k ≤ es.length ∧ i = .int .i64 k ∧ Below w.heap.size w wr ∧ Hid (∀ i j (hi : i < es.length) (hj : j < es.length), i < j → j < k → es[i].s.id ≠ es[j].s.id)) (fun i _ => es.length - (intOf i).toNat)
  case atStart => exact ⟨0, Nat.zero_le _, rfl, Below.refl _ _, Lib.hid (fun i j _ _ _ h => absurd h (by omega))⟩
  case round =>
    obtain ⟨k, hk, rfl, hB, HN⟩ := hrel
    by_cases hlt : k < es.length
    · go_wp2_with fail
      go_loopw [4] (fun i wr => ∃ m : Nat, m ≤ k ∧ i = .int .i64 m ∧ Below w.heap.size w wr ∧ Hid (∀ i (hi : i < es.length), i < m → es[i].s.id ≠ es[k].s.id)) (fun i _ => k - (intOf i).toNat)
      case atStart => exact ⟨0, Nat.zero_le _, rfl, hB, Lib.hid (fun i _ h => absurd h (by omega))⟩
      case round =>
        clear hB
        obtain ⟨m, hm, rfl, hB, HM⟩ := hrel
        by_cases hmk : m < k
        · have hml : m < es.length := by omega
          have L1 := (hL.below hB).more hB.size
          obtain ⟨la, rfl, hlb, a0, -⟩ := L1.st8 hlt
          obtain ⟨la', e', hlb', b0, -⟩ := L1.st8 hml
          obtain rfl : la = la' := by simpa using e'
          clear e' L1
          have HH := Lib.hid (HY.out m k hml hlt hmk)
          have HM2 : Hid (es[m].s.id ≠ es[k].s.id → ∀ i (hi : i < es.length), i < m + 1 → es[i].s.id ≠ es[k].s.id) := Lib.hid (fun h i hi h2 => by
            by_cases e : i = m
            · subst e; exact h
            · exact HM.out i hi (by omega))
          by_cases he : es[k].s.id = es[m].s.id
          · have q : (es[k].s.id == es[m].s.id) = true := by simp [he]
            have HF := Lib.hid (HH.out he.symm)
            clear he
            go_wp2_with fail
            refine wp_region_kept wr.heap.size wr (by kernel_rfl) (by kernel_rfl) (Below.refl _ _) ?_
            repeat (go_big_quiet_step (fail))
            refine wpQuiet_nil ?_
            rintro w1 ⟨⟨_, hb1⟩, rfl⟩
            go_wp2_with fail
            go_ret
            exact ⟨ret_bool HF.out, after_ hB hb1⟩
          · have q : (es[k].s.id == es[m].s.id) = false := by simp [he]
            have HM3 := Lib.hid (HM2.out (fun h => he h.symm))
            clear he
            go_wp2_with fail
            refine wp_region_kept wr.heap.size wr (by kernel_rfl) (by kernel_rfl) (Below.refl _ _) ?_
            repeat (go_big_quiet_step (fail))
            refine wpQuiet_nil ?_
            rintro w1 ⟨⟨_, hb1⟩, rfl⟩
            go_wp2_with fail
            go_roundw
            case rel => exact ⟨m + 1, hmk, by go_num, after_ hB hb1, HM3⟩
            case measure => simp [intOf]; omega
        · have HN2 : Hid (∀ i j (hi : i < es.length) (hj : j < es.length), i < j → j < k + 1 → es[i].s.id ≠ es[j].s.id) := Lib.hid (fun i j hi hj hij hjk => by
            by_cases e : j = k
            · subst e; exact HM.out i hi (by omega)
            · exact HN.out i j hi hj hij (by omega))
          go_wp2_with fail
          go_roundw
          case rel => exact ⟨k + 1, hlt, by go_num, hB, HN2⟩
          case measure => simp [intOf]; omega
    · have HF := Lib.hid (HNO.out (fun i j hi hj hij hjl => HN.out i j hi hj hij (by omega)))
      go_wp2_with fail
      go_ret
      exact ⟨ret_bool HF.out, hB⟩

set_option maxHeartbeats 8000000 in
theorem rSort_ok (LA : Option Addr) (lc : Nat) (es : List SE) (w : World) (hL : Sl 8 secell w w.heap.size LA es) (hl : es.length ≤ 1000) :
    Calls Tryd.prog 22 #[.slice LA es.length lc] w fun e w' => ∃ A c, e = .returned (.slice A (M.rsortTo es 512).length c) ∧ w'.ownsRow w.heap.size 28 8 (.slice A (M.rsortTo es 512).length c) (M.rsortTo es 512).length (flat 8 secell (M.rsortTo es 512)) ∧ Below w.heap.size w w' := by
  obtain ⟨i8, hi8, hz08, hz18, hz28⟩ := info_parts seInfo
  have Hi8 := Lib.hid hi8; have Hz08 := Lib.hid hz08; have Hz18 := Lib.hid hz18; have Hz28 := Lib.hid hz28
  clear hi8 hz08 hz18 hz28
  go_enter Tryd.func22, Tryd.ntmps22
  go_wp2_with fail
  go_loopw [3, 4] (fun out i wr => ∃ (n : Nat) (os : List SE), n ≤ 512 ∧ i = .int .i64 n ∧ Below w.heap.size w wr ∧ os.length ≤ n * 1000 ∧ wr.ownsRow w.heap.size 28 8 out os.length (flat 8 secell os) ∧ Hid (os = M.rsortTo es n)) (fun _ i _ => 512 - (intOf i).toNat)
  case atStart => exact ⟨0, [], Nat.zero_le _, rfl, Below.refl _ _, by simp, own_nil _ _ _ _ _, Lib.hid rfl⟩
  case round =>
    obtain ⟨n, os, hn, rfl, hB, hol, hown, HO⟩ := hrel
    by_cases hlt : n < 512
    · have q7 : decide ((n : Int) < 512) = true := decide_eq_true (by omega)
      go_wp2_with fail
      go_loopw [3, 5] (fun out i wr => ∃ (k : Nat) (os : List SE), k ≤ es.length ∧ i = .int .i64 k ∧ Below w.heap.size w wr ∧ os.length ≤ n * 1000 + k ∧ wr.ownsRow w.heap.size 28 8 out os.length (flat 8 secell os) ∧ Hid (os = M.rsortTo es n ++ (es.take k).filter fun e => decide (e.s.id = (n : Int)))) (fun _ i _ => es.length - (intOf i).toNat)
      case atStart => exact ⟨0, os, Nat.zero_le _, rfl, hB, by omega, hown, Lib.hid (by rw [HO.out]; simp)⟩
      case round =>
        clear hown hB hol HO os
        obtain ⟨k, os, hk, rfl, hB, hol, hown, HO⟩ := hrel
        by_cases hke : k < es.length
        · obtain ⟨la, rfl, hlb, a0, a1, a2, a3, a4, a5, a6, a7⟩ := ((hL.below hB).more hB.size).st8 hke
          have HT : Hid ((es.take (k + 1)).filter (fun e => decide (e.s.id = (n : Int))) = (es.take k).filter (fun e => decide (e.s.id = (n : Int))) ++ if es[k].s.id = (n : Int) then [es[k]] else []) := Lib.hid (by
            rw [List.take_succ_eq_append_getElem hke, List.filter_append]
            congr 1
            by_cases h : es[k].s.id = (n : Int)
            · simp [h]
            · simp [h])
          by_cases he : es[k].s.id = (n : Int)
          · have q : (es[k].s.id == (n : Int)) = true := by simp [he]
            have HT2 := Lib.hid (HT.out.trans (by rw [if_pos he]))
            clear he
            go_wp2_with (at_builtin; refine wpList_push (w0 := w) (cell := secell) (y := es[k]) rfl _ _ _ rfl w.heap.size w.heap.size 28 i8 _ 80 Tryd.underlying38 Hi8.out Hz08.out Hz18.out Hz28.out rfl (by decide) _ _ _ rfl hown _ _ rfl _ rfl (se_one _) (by unfold maxLen; omega) (by omega) hB.size (Nat.le_refl _) hB ?_; intro v' w' hown' hb' _)
            go_roundw
            case rel => exact ⟨k + 1, os ++ [es[k]], hke, by go_num, hb', by simp; omega, by rw [List.length_append]; exact hown', Lib.hid (by rw [HT2.out, ← List.append_assoc, ← HO.out])⟩
            case measure => simp [intOf]; omega
          · have q : (es[k].s.id == (n : Int)) = false := by simp [he]
            have HT2 := Lib.hid (HT.out.trans (by rw [if_neg he]))
            clear he
            go_wp2_with fail
            go_roundw
            case rel => exact ⟨k + 1, os, hke, by go_num, hB, by omega, hown, Lib.hid (by rw [HT2.out, List.append_nil]; exact HO.out)⟩
            case measure => simp [intOf]; omega
        · have HO2 : Hid (os = M.rsortTo es (n + 1)) := Lib.hid (by rw [HO.out, M.rsortTo_succ, List.take_of_length_le (by omega)])
          go_wp2_with fail
          go_roundw
          case rel => exact ⟨n + 1, os, hlt, by go_num, hB, by omega, hown, HO2⟩
          case measure => simp [intOf]; omega
    · obtain rfl : n = 512 := by omega
      obtain ⟨A9, c9, rfl, -⟩ := own_slice (by decide) hown
      have HO2 := Lib.hid HO.out
      go_wp2_with fail
      go_ret
      exact ⟨A9, c9, by rw [HO2.out]; rfl, by rw [← HO2.out]; exact hown, hB⟩
end Go.Proofs.YtfcaikahdcpglaaDoor
