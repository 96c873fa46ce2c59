/- A bundle of texts: Rd2, Rd3, Rd4, Rd5, GrD, Rd6, Rd7, Ld, Ld2. -/
import Derived.Test.YtpkepgcmifdpfaaGreatDoorV25
import Derived.Test.YtpkepgcmifdpfaaGreatDoorV07
import Derived.Test.YtpkepgcmifdpfaaGreatDoorV19
section
namespace Go.Proofs.YtpkepgcmifdpfaaGreatDoor
open Go Go.RowKit
set_option maxRecDepth 100000
namespace M
def rdB (d : Tb) (lst : Nat → Bool) (i a b : Nat) : Bool := !(d a b) || lst b || inG d i b
def rdA (d : Tb) (lst : Nat → Bool) (n i a : Nat) : Bool := !(inG d i a) || (List.range n).all (rdB d lst i a)
theorem rdyT_all {d : Tb} {lst : Nat → Bool} {n i : Nat} (h : ∀ a, a < n → rdA d lst n i a = true) : rdyT d lst n i = true := by
  unfold rdyT
  rw [List.all_eq_true]
  exact fun a ha => h a (List.mem_range.1 ha)
theorem rdA_all {d : Tb} {lst : Nat → Bool} {n i a : Nat} (h : ∀ b, b < n → rdB d lst i a b = true) : rdA d lst n i a = true := by
  unfold rdA
  rw [Bool.or_eq_true, List.all_eq_true]
  exact .inr fun b hb => h b (List.mem_range.1 hb)
theorem rdA_out {d : Tb} {lst : Nat → Bool} {n i a : Nat} (h : inG d i a = false) : rdA d lst n i a = true := by unfold rdA; rw [h]; rfl
theorem rdyT_no {d : Tb} {lst : Nat → Bool} {n i a b : Nat} (ha : a < n) (hb : b < n) (hg : inG d i a = true) (h : rdB d lst i a b = false) : rdyT d lst n i = false := by
  unfold rdyT
  rw [List.all_eq_false]
  refine ⟨a, List.mem_range.2 ha, ?_⟩
  rw [hg, Bool.not_true, Bool.false_or, Bool.not_eq_true, List.all_eq_false]
  exact ⟨b, List.mem_range.2 hb, by rw [Bool.not_eq_true]; exact h⟩
theorem inG_own (d : Tb) (i : Nat) : inG d i i = true := by unfold inG; rw [decide_eq_true rfl]; rfl
theorem inG_ne {d : Tb} {i k : Nat} (h : k ≠ i) : inG d i k = (d i k && d k i) := by unfold inG; rw [decide_eq_false h]; rfl
end M
set_option maxHeartbeats 32000000 in
theorem rReady_ok (g gl n i base : Nat) (b : Nat → Nat) (d : M.Tb) (lst : Nat → Bool) (w : World) (h : TB w base g n n b d) (hl : BR w base gl n lst) (hi : i < n) (hn : n ≤ 1000000) :
    Calls Tryz.prog 54 #[.slice (some ⟨g, 0, none⟩) n n, .slice (some ⟨gl, 0, none⟩) n n, .int .i64 i] w fun e w' => e = .returned (.bool (M.rdyT d lst n i)) ∧ w = w' := by
  have xi0 : (0 : Int) ≤ (i : Int) := by omega
  have xi1 : (i : Int) < (n : Int) := by omega
  have hI := h.head (Nat.le_refl _) hi
  obtain ⟨res, hres⟩ : ∃ r, M.rdyT d lst n i = r := ⟨_, rfl⟩
  rw [hres]
  have HRES := Lib.hid hres
  clear hres
  go_enter Tryz.func54, Tryz.ntmps54
  go_wp2_with fail
  refine wp_loop_mrg [7, 8, 9, 10, 11, 12, 13, 14, 15, 16, 17, 18, 19, 20, 21, 22, 23, 24, 25, 26, 27, 28, 29, 30, 31, 32, 33, 34, 35, 36, 37, 38, 39, 40, 41, 42, 43, 44, 45, 46, 47, 48, 49, 50, 51, 52, 53, 54, 55, 56, 57, 58, 59, 60, 61, 62, 63, 64, 65, 66, 67, 68, 69, 70, 71, 72, 73, 74, 75, 76, 77, 78, 79, 80] (fun mm f ds W0 => ds = [] ∧ ∃ (a : Nat), f 7 = .int .i64 a ∧ mm = n - a ∧ a ≤ n ∧ W0 = w ∧ Hid (∀ a', a' < a → M.rdA d lst n i a' = true)) n ⟨rfl, 0, rfl, rfl, Nat.zero_le _, rfl, Lib.hid (fun a h => absurd h (by omega))⟩ ?_
  intro c1' T1' hc2 hT2
  rintro mm f ds W0 ⟨rfl, a, hf7, rfl, ha, rfl, HA⟩
  replace hc2 := hc2.out
  subst hc2
  replace hT2 := hT2.out
  subst hT2
  generalize hF : mrgF _ 0 _ _ = F
  simp only [mrg_hit, mrg_miss, mrg_nil, Nat.reduceBEq, Nat.reduceAdd] at hF
  rw [hf7] at hF
  subst hF
  by_cases hlt : a < n
  · have x0a : (0 : Int) ≤ (a : Int) := by omega
    have x1a : (a : Int) < (n : Int) := by omega
    have q0a : decide ((a : Int) < (n : Int)) = true := decide_eq_true x1a
    by_cases hai : a = i
    · have qa : ((a : Int) != (i : Int)) = false := by simpa using (by omega : (a : Int) = (i : Int))
      have HG : Hid (M.inG d i a = true) := Lib.hid (by rw [hai]; exact M.inG_own d i)
      have HG2 := HG
      clear hai
      clear HG
      have hund : undef = Value.tuple #[] := rfl
      go_wp2_with fail
      clear hund
      refine wp_loop_mrg [8, 37, 38, 39, 40, 41, 42, 43, 44, 45, 46, 47, 48, 49, 50, 51, 52, 53, 54, 55, 56, 57, 58, 59, 60, 61, 62, 63, 64, 65, 66, 67, 68, 69, 70, 71, 72, 73, 74, 75, 76, 77, 78, 79, 80] (fun mm f ds W1 => ds = [] ∧ ∃ (c : Nat), f 8 = .int .i64 c ∧ mm = n - c ∧ c ≤ n ∧ W1 = W0 ∧ Hid (∀ c', c' < c → M.rdB d lst i a c' = true)) n ⟨rfl, 0, rfl, rfl, Nat.zero_le _, rfl, Lib.hid (fun a h => absurd h (by omega))⟩ ?_
      intro c2' T2' hc2 hT2
      rintro mm f ds W1 ⟨rfl, c, hf8, rfl, hc, rfl, HC⟩
      replace hc2 := hc2.out
      subst hc2
      replace hT2 := hT2.out
      subst hT2
      generalize hF : mrgF _ 0 _ _ = F
      simp only [mrg_hit, mrg_miss, mrg_nil, Nat.reduceBEq, Nat.reduceAdd] at hF
      rw [hf8] at hF
      subst hF
      by_cases hltc : c < n
      · have x0c : (0 : Int) ≤ (c : Int) := by omega
        have x1c : (c : Int) < (n : Int) := by omega
        have q0c : decide ((c : Int) < (n : Int)) = true := decide_eq_true x1c
        have hAa := h.head (Nat.le_refl _) hlt
        have hAc := h.head (Nat.le_refl _) hltc
        have v1 := (h.at hlt hltc).1
        have v2 := (hl.at hltc).1
        have v4 := (h.at hltc hi).1
        have v5 := (h.at hi hltc).1
        obtain ⟨r1, hv1⟩ : ∃ r, d a c = r := ⟨_, rfl⟩
        obtain ⟨r2, hv2⟩ : ∃ r, lst c = r := ⟨_, rfl⟩
        obtain ⟨r4, hv4⟩ : ∃ r, d c i = r := ⟨_, rfl⟩
        obtain ⟨r5, hv5⟩ : ∃ r, d i c = r := ⟨_, rfl⟩
        rw [hv1] at v1
        rw [hv2] at v2
        rw [hv4] at v4
        rw [hv5] at v5
        cases r1 with
        | false =>
          have HC2 : Hid (∀ c', c' < c + 1 → M.rdB d lst i a c' = true) := Lib.hid (fun c' h' => by
            by_cases e : c' = c
            · subst e; unfold M.rdB; rw [hv1]; rfl
            · exact HC.out c' (by omega))
          clear HC hv1 hv2 hv4 hv5
          try clear hci
          have hund : undef = Value.tuple #[] := rfl
          go_wp2_with fail
          exact ⟨_, rfl, rfl, n - (c + 1), by omega, by trivial, c + 1, rfl, rfl, hltc, by trivial, HC2⟩
        | true =>
        cases r2 with
        | true =>
          have HC2 : Hid (∀ c', c' < c + 1 → M.rdB d lst i a c' = true) := Lib.hid (fun c' h' => by
            by_cases e : c' = c
            · subst e; unfold M.rdB; rw [hv2, Bool.or_true]; rfl
            · exact HC.out c' (by omega))
          clear HC hv1 hv2 hv4 hv5
          try clear hci
          have hund : undef = Value.tuple #[] := rfl
          go_wp2_with fail
          exact ⟨_, rfl, rfl, n - (c + 1), by omega, by trivial, c + 1, rfl, rfl, hltc, by trivial, HC2⟩
        | false =>
        by_cases hci : c = i
        · have qc : ((c : Int) != (i : Int)) = false := by simpa using (by omega : (c : Int) = (i : Int))
          have HC2 : Hid (∀ c', c' < c + 1 → M.rdB d lst i a c' = true) := Lib.hid (fun c' h' => by
            by_cases e : c' = c
            · subst e; unfold M.rdB; rw [hci, M.inG_own, Bool.or_true]
            · exact HC.out c' (by omega))
          clear HC hv1 hv2 hv4 hv5
          try clear hci
          have hund : undef = Value.tuple #[] := rfl
          go_wp2_with fail
          exact ⟨_, rfl, rfl, n - (c + 1), by omega, by trivial, c + 1, rfl, rfl, hltc, by trivial, HC2⟩
        have qc : ((c : Int) != (i : Int)) = true := by simpa using (by omega : ¬ (c : Int) = (i : Int))
        cases r4 with
        | false =>
          have HF : Hid (false = res) := Lib.hid (by rw [← HRES.out, M.rdyT_no hlt hltc HG2.out (by unfold M.rdB; rw [hv1, hv2, M.inG_ne hci, hv4, Bool.and_false]; rfl)])
          clear HRES HC HA HG2 hv1 hv2 hv4 hv5
          have hund : undef = Value.tuple #[] := rfl
          go_wp2_with fail
          go_ret
          exact ⟨by rw [← HF.out]; rfl, rfl⟩
        | true =>
        cases r5 with
        | false =>
          have HF : Hid (false = res) := Lib.hid (by rw [← HRES.out, M.rdyT_no hlt hltc HG2.out (by unfold M.rdB; rw [hv1, hv2, M.inG_ne hci, hv4, hv5]; rfl)])
          clear HRES HC HA HG2 hv1 hv2 hv4 hv5
          have hund : undef = Value.tuple #[] := rfl
          go_wp2_with fail
          go_ret
          exact ⟨by rw [← HF.out]; rfl, rfl⟩
        | true =>
          have HC2 : Hid (∀ c', c' < c + 1 → M.rdB d lst i a c' = true) := Lib.hid (fun c' h' => by
            by_cases e : c' = c
            · subst e; unfold M.rdB; rw [M.inG_ne hci, hv4, hv5, Bool.and_self, Bool.or_true]
            · exact HC.out c' (by omega))
          clear HC hv1 hv2 hv4 hv5
          try clear hci
          have hund : undef = Value.tuple #[] := rfl
          go_wp2_with fail
          exact ⟨_, rfl, rfl, n - (c + 1), by omega, by trivial, c + 1, rfl, rfl, hltc, by trivial, HC2⟩
      · obtain rfl : n = c := by omega
        have q0 : decide ((n : Int) < (n : Int)) = false := decide_eq_false (by omega)
        have HA2 : Hid (∀ a', a' < a + 1 → M.rdA d lst n i a' = true) := Lib.hid (fun a' h' => by
          by_cases e : a' = a
          · subst e; exact M.rdA_all HC.out
          · exact HA.out a' (by omega))
        clear HC HA
        go_wp2_with fail
        exact ⟨_, rfl, rfl, n - (a + 1), by omega, by trivial, a + 1, rfl, rfl, hlt, by trivial, HA2⟩
    have qa : ((a : Int) != (i : Int)) = true := by simpa using (by omega : ¬ (a : Int) = (i : Int))
    have hA := h.head (Nat.le_refl _) hlt
    have u1 := (h.at hlt hi).1
    have u2 := (h.at hi hlt).1
    obtain ⟨s1, hu1⟩ : ∃ r, d a i = r := ⟨_, rfl⟩
    obtain ⟨s2, hu2⟩ : ∃ r, d i a = r := ⟨_, rfl⟩
    rw [hu1] at u1
    rw [hu2] at u2
    cases s1 with
    | false =>
      have HA2 : Hid (∀ a', a' < a + 1 → M.rdA d lst n i a' = true) := Lib.hid (fun a' h' => by
        by_cases e : a' = a
        · subst e; exact M.rdA_out (by rw [M.inG_ne hai, hu1, Bool.and_false])
        · exact HA.out a' (by omega))
      clear HA hu1 hu2
      go_wp2_with fail
      exact ⟨_, rfl, rfl, n - (a + 1), by omega, by trivial, a + 1, rfl, rfl, hlt, by trivial, HA2⟩
    | true =>
    cases s2 with
    | false =>
      have HA2 : Hid (∀ a', a' < a + 1 → M.rdA d lst n i a' = true) := Lib.hid (fun a' h' => by
        by_cases e : a' = a
        · subst e; exact M.rdA_out (by rw [M.inG_ne hai, hu2, hu1, Bool.false_and])
        · exact HA.out a' (by omega))
      clear HA hu1 hu2
      go_wp2_with fail
      exact ⟨_, rfl, rfl, n - (a + 1), by omega, by trivial, a + 1, rfl, rfl, hlt, by trivial, HA2⟩
    | true =>
      have HG : Hid (M.inG d i a = true) := Lib.hid (by rw [M.inG_ne hai, hu1, hu2]; rfl)
      have HG2 := HG
      clear hai hu1 hu2
      clear HG
      have hund : undef = Value.tuple #[] := rfl
      go_wp2_with fail
      clear hund
      refine wp_loop_mrg [8, 37, 38, 39, 40, 41, 42, 43, 44, 45, 46, 47, 48, 49, 50, 51, 52, 53, 54, 55, 56, 57, 58, 59, 60, 61, 62, 63, 64, 65, 66, 67, 68, 69, 70, 71, 72, 73, 74, 75, 76, 77, 78, 79, 80] (fun mm f ds W1 => ds = [] ∧ ∃ (c : Nat), f 8 = .int .i64 c ∧ mm = n - c ∧ c ≤ n ∧ W1 = W0 ∧ Hid (∀ c', c' < c → M.rdB d lst i a c' = true)) n ⟨rfl, 0, rfl, rfl, Nat.zero_le _, rfl, Lib.hid (fun a h => absurd h (by omega))⟩ ?_
      intro c2' T2' hc2 hT2
      rintro mm f ds W1 ⟨rfl, c, hf8, rfl, hc, rfl, HC⟩
      replace hc2 := hc2.out
      subst hc2
      replace hT2 := hT2.out
      subst hT2
      generalize hF : mrgF _ 0 _ _ = F
      simp only [mrg_hit, mrg_miss, mrg_nil, Nat.reduceBEq, Nat.reduceAdd] at hF
      rw [hf8] at hF
      subst hF
      by_cases hltc : c < n
      · have x0c : (0 : Int) ≤ (c : Int) := by omega
        have x1c : (c : Int) < (n : Int) := by omega
        have q0c : decide ((c : Int) < (n : Int)) = true := decide_eq_true x1c
        have hAa := h.head (Nat.le_refl _) hlt
        have hAc := h.head (Nat.le_refl _) hltc
        have v1 := (h.at hlt hltc).1
        have v2 := (hl.at hltc).1
        have v4 := (h.at hltc hi).1
        have v5 := (h.at hi hltc).1
        obtain ⟨r1, hv1⟩ : ∃ r, d a c = r := ⟨_, rfl⟩
        obtain ⟨r2, hv2⟩ : ∃ r, lst c = r := ⟨_, rfl⟩
        obtain ⟨r4, hv4⟩ : ∃ r, d c i = r := ⟨_, rfl⟩
        obtain ⟨r5, hv5⟩ : ∃ r, d i c = r := ⟨_, rfl⟩
        rw [hv1] at v1
        rw [hv2] at v2
        rw [hv4] at v4
        rw [hv5] at v5
        cases r1 with
        | false =>
          have HC2 : Hid (∀ c', c' < c + 1 → M.rdB d lst i a c' = true) := Lib.hid (fun c' h' => by
            by_cases e : c' = c
            · subst e; unfold M.rdB; rw [hv1]; rfl
            · exact HC.out c' (by omega))
          clear HC hv1 hv2 hv4 hv5
          try clear hci
          have hund : undef = Value.tuple #[] := rfl
          go_wp2_with fail
          exact ⟨_, rfl, rfl, n - (c + 1), by omega, by trivial, c + 1, rfl, rfl, hltc, by trivial, HC2⟩
        | true =>
        cases r2 with
        | true =>
          have HC2 : Hid (∀ c', c' < c + 1 → M.rdB d lst i a c' = true) := Lib.hid (fun c' h' => by
            by_cases e : c' = c
            · subst e; unfold M.rdB; rw [hv2, Bool.or_true]; rfl
            · exact HC.out c' (by omega))
          clear HC hv1 hv2 hv4 hv5
          try clear hci
          have hund : undef = Value.tuple #[] := rfl
          go_wp2_with fail
          exact ⟨_, rfl, rfl, n - (c + 1), by omega, by trivial, c + 1, rfl, rfl, hltc, by trivial, HC2⟩
        | false =>
        by_cases hci : c = i
        · have qc : ((c : Int) != (i : Int)) = false := by simpa using (by omega : (c : Int) = (i : Int))
          have HC2 : Hid (∀ c', c' < c + 1 → M.rdB d lst i a c' = true) := Lib.hid (fun c' h' => by
            by_cases e : c' = c
            · subst e; unfold M.rdB; rw [hci, M.inG_own, Bool.or_true]
            · exact HC.out c' (by omega))
          clear HC hv1 hv2 hv4 hv5
          try clear hci
          have hund : undef = Value.tuple #[] := rfl
          go_wp2_with fail
          exact ⟨_, rfl, rfl, n - (c + 1), by omega, by trivial, c + 1, rfl, rfl, hltc, by trivial, HC2⟩
        have qc : ((c : Int) != (i : Int)) = true := by simpa using (by omega : ¬ (c : Int) = (i : Int))
        cases r4 with
        | false =>
          have HF : Hid (false = res) := Lib.hid (by rw [← HRES.out, M.rdyT_no hlt hltc HG2.out (by unfold M.rdB; rw [hv1, hv2, M.inG_ne hci, hv4, Bool.and_false]; rfl)])
          clear HRES HC HA HG2 hv1 hv2 hv4 hv5
          have hund : undef = Value.tuple #[] := rfl
          go_wp2_with fail
          go_ret
          exact ⟨by rw [← HF.out]; rfl, rfl⟩
        | true =>
        cases r5 with
        | false =>
          have HF : Hid (false = res) := Lib.hid (by rw [← HRES.out, M.rdyT_no hlt hltc HG2.out (by unfold M.rdB; rw [hv1, hv2, M.inG_ne hci, hv4, hv5]; rfl)])
          clear HRES HC HA HG2 hv1 hv2 hv4 hv5
          have hund : undef = Value.tuple #[] := rfl
          go_wp2_with fail
          go_ret
          exact ⟨by rw [← HF.out]; rfl, rfl⟩
        | true =>
          have HC2 : Hid (∀ c', c' < c + 1 → M.rdB d lst i a c' = true) := Lib.hid (fun c' h' => by
            by_cases e : c' = c
            · subst e; unfold M.rdB; rw [M.inG_ne hci, hv4, hv5, Bool.and_self, Bool.or_true]
            · exact HC.out c' (by omega))
          clear HC hv1 hv2 hv4 hv5
          try clear hci
          have hund : undef = Value.tuple #[] := rfl
          go_wp2_with fail
          exact ⟨_, rfl, rfl, n - (c + 1), by omega, by trivial, c + 1, rfl, rfl, hltc, by trivial, HC2⟩
      · obtain rfl : n = c := by omega
        have q0 : decide ((n : Int) < (n : Int)) = false := decide_eq_false (by omega)
        have HA2 : Hid (∀ a', a' < a + 1 → M.rdA d lst n i a' = true) := Lib.hid (fun a' h' => by
          by_cases e : a' = a
          · subst e; exact M.rdA_all HC.out
          · exact HA.out a' (by omega))
        clear HC HA
        go_wp2_with fail
        exact ⟨_, rfl, rfl, n - (a + 1), by omega, by trivial, a + 1, rfl, rfl, hlt, by trivial, HA2⟩
  · obtain rfl : n = a := by omega
    have q0 : decide ((n : Int) < (n : Int)) = false := decide_eq_false (by omega)
    have HF : Hid (true = res) := Lib.hid (by rw [← HRES.out, M.rdyT_all HA.out])
    go_wp2_with fail
    go_ret
    exact ⟨by rw [← HF.out]; rfl, rfl⟩
end Go.Proofs.YtpkepgcmifdpfaaGreatDoor
end

section
namespace Go.Proofs.YtpkepgcmifdpfaaGreatDoor
open Go Go.RowKit
set_option maxRecDepth 100000
namespace M
theorem scc_inG {R : List Nat} (h : Dg.Ok R) {v j : Nat} (hv : v < R.length) (hj : j < R.length) : (Dg.scc R v).testBit j = inG (dep R) v j := by
  rw [inG_eq h hv hj, Bool.eq_iff_iff, Dg.scc_bit h hv, Dg.grp_iff h]
def lstK (lst : Nat → Bool) (d : Tb) (v k : Nat) : Nat → Bool := fun j => lst j || (decide (j < k) && inG d v j)
theorem lstK_zero (lst : Nat → Bool) (d : Tb) (v : Nat) : lstK lst d v 0 = lst := by funext j; simp [lstK]
theorem lstK_no {lst : Nat → Bool} {d : Tb} {v k : Nat} (h : inG d v k = false) : lstK lst d v (k + 1) = lstK lst d v k := by
  funext j
  unfold lstK
  by_cases e : j = k
  · subst e; rw [h]; simp
  · rw [show decide (j < k + 1) = decide (j < k) from decide_eq_decide.2 (by omega)]
theorem lstK_yes {lst : Nat → Bool} {d : Tb} {v k : Nat} (h : inG d v k = true) : lstK lst d v (k + 1) = setB (lstK lst d v k) k := by
  funext j
  unfold lstK setB
  by_cases e : j = k
  · subst e; rw [if_pos rfl, h]; simp
  · rw [if_neg e, show decide (j < k + 1) = decide (j < k) from decide_eq_decide.2 (by omega)]
theorem lstK_own {lst : Nat → Bool} {d : Tb} {v k : Nat} (h : lst k = false) : lstK lst d v k k = false := by unfold lstK; rw [h]; simp
def mbs (l : List Mv) (d : Tb) (v k : Nat) : List Int := ((List.range k).filter (inG d v)).map (stv l)
theorem mbs_no {l : List Mv} {d : Tb} {v k : Nat} (h : inG d v k = false) : mbs l d v (k + 1) = mbs l d v k := by
  unfold mbs
  rw [List.range_succ, List.filter_append, List.filter_cons_of_neg (by rw [h]; decide)]
  simp
theorem mbs_yes {l : List Mv} {d : Tb} {v k : Nat} (h : inG d v k = true) : mbs l d v (k + 1) = mbs l d v k ++ [stv l k] := by
  unfold mbs
  rw [List.range_succ, List.filter_append, List.filter_cons_of_pos h]
  simp
theorem mbs_len (l : List Mv) (d : Tb) (v k : Nat) : (mbs l d v k).length ≤ k := by
  unfold mbs
  rw [List.length_map]
  have := List.length_filter_le (inG d v) (List.range k)
  simpa using this
theorem mbs_sts {l : List Mv} {R : List Nat} (h : Dg.Ok R) (hn : R.length = l.length) {v : Nat} (hv : v < l.length) : mbs l (dep R) v l.length = sts l (Dg.scc R v) := by
  rw [sts_eq, Dg.scc_els h (by omega)]
  unfold mbs
  rw [hn]
  congr 1
  exact List.filter_congr fun k hk => inG_eq h (by omega) (by have := List.mem_range.1 hk; omega)
theorem cntB_more {n v : Nat} {lst : Nat → Bool} {d : Tb} (hv : v < n) (hl : lst v = false) : cntB n lst < cntB n (lstK lst d v n) := by
  unfold cntB
  refine Bs.filter_lt (fun x hx => by unfold lstK; rw [hx]; rfl) ⟨v, List.mem_range.2 hv, hl, ?_⟩
  unfold lstK
  rw [decide_eq_true hv, inG_own, Bool.and_self, Bool.or_true]
theorem RG.go {R done left : List Nat} {S n : Nat} {lst : Nat → Bool} (h : Dg.Ok R) (hn : R.length = n) (r : RG R done left S) (hl : ∀ j, j < n → lst j = S.testBit j) (hc : cntB n lst < n) :
    ∃ v, v < n ∧ lst v = false ∧ rdyT (dep R) lst n v = true ∧ (∀ j, j < v → lst j = true ∨ rdyT (dep R) lst n j = false) ∧ (∀ k, k < n → inG (dep R) v k = true → lst k = false) ∧
      ∃ left' S', RG R (done ++ [v]) left' S' ∧ ∀ j, j < n → lstK lst (dep R) v n j = S'.testBit j := by
  subst hn
  obtain ⟨j, hj, hlj⟩ := cntB_lt hc
  obtain ⟨v, h1, h2, h3, h4⟩ := r.at h hj (by rw [← hl j hj]; exact hlj)
  unfold Dg.rfirst at h1
  rw [Dg.find_first List.pairwise_lt_range] at h1
  obtain ⟨-, h5, h6⟩ := h1
  rw [Bool.and_eq_true, Bool.not_eq_true'] at h5
  refine ⟨v, h2, by rw [hl v h2]; exact h5.1, by rw [rdyT_eq h h2 hl]; exact h5.2, fun u hu => ?_, fun k hk hg => ?_, _, _, h4, fun k hk => ?_⟩
  · have hul : u < R.length := by omega
    rw [hl u hul, rdyT_eq h hul hl]
    cases hs : S.testBit u with
    | true => exact .inl rfl
    | false =>
      right
      cases hr : Dg.rdy R S u with
      | false => rfl
      | true =>
        have := h6 u (by simpa using hul) (by rw [hs, hr]; rfl)
        omega
  · rw [hl k hk]
    exact h3 k (by rw [scc_inG h h2 hk]; exact hg)
  · unfold lstK
    rw [Nat.testBit_or, scc_inG h h2 hk, hl k hk, decide_eq_true hk, Bool.true_and]
end M
structure RGS (w W : World) (g gl n base : Nat) (b : Nat → Nat) (d : M.Tb) (lst : Nat → Bool) (vO : Value) (os : List SLc) : Prop where
  bel : Below w.heap.size w W
  tb : TB W w.heap.size g n n b d
  bl : BR W w.heap.size gl n lst
  lo : LO W base vO os
section
variable {w W W' : World} {g gl n base : Nat} {b : Nat → Nat} {d : M.Tb} {lst : Nat → Bool} {vO : Value} {os : List SLc}
theorem RGS.next (h : RGS w W g gl n base b d lst vO os) (hb : Below W.heap.size W W') : RGS w W' g gl n base b d lst vO os := ⟨after_ h.bel hb, h.tb.next hb, own_below h.bl hb, h.lo.below hb⟩
theorem RGS.lts (h : RGS w W g gl n base b d lst vO os) : g < W.heap.size ∧ gl < W.heap.size ∧ (∀ i, i < n → b i < W.heap.size) ∧ (∀ r, vO.ownBlock = some r → r < W.heap.size) ∧ ∀ s ∈ os, ∀ r, (Value.slice s.A s.xs.length s.c).ownBlock = some r → r < W.heap.size :=
  ⟨h.tb.glt.2, (own_lt h.bl).2, fun _ hi => (h.tb.lt hi).2, fun r e => (h.lo.outer.lt r e).2, fun s hs r e => ((h.lo.inner s hs).lt r e).2⟩
theorem own_nn (v : Value) : v.ownBlock = none ∨ v.ownBlock ≠ none := by cases v.ownBlock <;> simp
theorem RGS.grow {row : Option Nat} {C : Nat} (h : RGS w W g gl n base b d lst vO os) (hg : W.grownBy W' row) (hr : ∀ r, row = some r → C ≤ r) (hC : w.heap.size ≤ C) (hl : g < C ∧ gl < C ∧ (∀ i, i < n → b i < C) ∧ (∀ r, vO.ownBlock = some r → r < C) ∧ ∀ s ∈ os, ∀ r, (Value.slice s.A s.xs.length s.c).ownBlock = some r → r < C) : RGS w W' g gl n base b d lst vO os := by
  obtain ⟨h1, h2, h3, h4, h5⟩ := hl
  refine ⟨h.bel.grown hg h.bel.size (fun k e => Nat.le_trans hC (hr k e)), h.tb.kept hg (fun e => by have := hr _ e; omega) (fun i hi e => by have := hr _ e; have := h3 i hi; omega), h.bl.kept hg (.inr (fun e => by have h9 : C ≤ gl := hr gl e.symm; omega)), ?_⟩
  cases row with
  | none => exact ⟨h.lo.outer.kept hg (own_nn _), fun s hs => (h.lo.inner s hs).kept hg (own_nn _)⟩
  | some r =>
    have hrr := hr r rfl
    exact h.lo.off hg (fun e => by have := h4 r e; omega) (fun s hs e => by have := h5 s hs r e; omega)
theorem RGS.push (h : RGS w W g gl n base b d lst vO os) {v' : Value} {s : SLc} (hi : W.ownsRow base 3 1 (.slice s.A s.xs.length s.c) s.xs.length (flat 1 icell s.xs)) (hb : Below w.heap.size w W') (ho : W'.ownsRow base 29 1 v' (os.length + 1) (flat 1 slcell (os ++ [s]))) (hg : W.grownBy W' vO.ownBlock) : RGS w W' g gl n base b d lst v' (os ++ [s]) := by
  have hne : ∀ {x : Nat} {e : TypeId} {bb : Nat} {xs : List Value}, W.ownsRow bb e 1 (.slice (some ⟨x, 0, none⟩) n n) n xs → e ≠ 29 → vO.ownBlock ≠ some x := fun {x e bb xs} h1 h2 => by
    rcases own_ne h1 h.lo.outer h2 with h3 | h3
    · cases h3
    · exact fun e2 => h3 e2.symm
  exact ⟨hb, h.tb.kept hg (hne h.tb.outer (by decide)) (fun i hi => hne (h.tb.row i hi) (by decide)), h.bl.kept hg (own_ne h.bl h.lo.outer (by decide)), h.lo.push hi ho hg⟩
theorem RGS.list (h : RGS w W g gl n base b d lst vO os) (hs : w.heap.size ≤ gl ∧ g < gl ∧ gl < base ∧ ∀ i, i < n → b i < gl) {k : Nat} (hk : k < n) : RGS w (W.setCell ⟨gl, k, none⟩ (.bool true)) g gl n base b d (M.setB lst k) vO os :=
  ⟨h.bel.setCell (p := ⟨gl, k, none⟩) hs.1 _, h.tb.kept (grown_set W gl k (.bool true)) (fun e => by have e2 : gl = g := Option.some.inj e; omega) (fun i hi e => by have e2 : gl = b i := Option.some.inj e; have := hs.2.2.2 i hi; omega), h.bl.set hk true, h.lo.far (grown_set W gl k (.bool true)) hs.2.2.1⟩
end
set_option maxHeartbeats 32000000 in
theorem rGroups_ok (PA : Option Addr) (pc np : Nat) (ps : List P5) (LA : Option Addr) (lc : Nat) (l : List Mv) (w : World) (hnp : np = ps.length) (hP : Sl 5 p5cell w w.heap.size PA ps) (hL : Sl 6 mvcell w w.heap.size LA l) (hl : l.length ≤ 9223372036854775806) (hi : M.Ints ps l) :
    Calls Tryz.prog 28 #[.slice PA np pc, .slice LA l.length lc] w fun e w' => (∃ er, M.errIs ps l er ∧ ((er ≠ 0 ∧ e = .returned (.tuple #[.slice none 0 0, .int .i64 er])) ∨ (er = 0 ∧ ∃ A c ls, e = .returned (.tuple #[.slice A ls.length c, .int .i64 0]) ∧ LO w' w.heap.size (.slice A ls.length c) ls ∧ ls.map (·.xs) = M.grps ps l))) ∧ Below w.heap.size w w' := by
  obtain ⟨ib, hib, hzb0, hzb1, hzb2⟩ := info_parts blInfo
  have Hib := Lib.hid hib; have Hzb0 := Lib.hid hzb0; have Hzb1 := Lib.hid hzb1; have Hzb2 := Lib.hid hzb2
  clear hib hzb0 hzb1 hzb2
  obtain ⟨ii, hii, hzi0, hzi1, hzi2⟩ := info_parts inInfo
  have Hii := Lib.hid hii; have Hzi0 := Lib.hid hzi0; have Hzi1 := Lib.hid hzi1; have Hzi2 := Lib.hid hzi2
  clear hii hzi0 hzi1 hzi2
  obtain ⟨il, hil, hzl0, hzl1, hzl2⟩ := info_parts slInfo
  have Hil := Lib.hid hil; have Hzl0 := Lib.hid hzl0; have Hzl1 := Lib.hid hzl1; have Hzl2 := Lib.hid hzl2
  clear hil hzl0 hzl1 hzl2
  have kE := rError_ok PA pc np ps LA lc l w hnp hL hl
  have KD := Lib.hid (fun (u : World) (hu : Below w.heap.size w u) (h1 : ps.length ≤ 20000) (h2 : l.length ≤ 512) => rDepends_ok PA pc np ps LA lc l u hnp ((hP.below hu).more hu.size) ((hL.below hu).more hu.size) (by omega) (by omega) hi)
  have HL : Hid (∀ W, Below w.heap.size w W → Sl 6 mvcell W w.heap.size LA l) := Lib.hid (fun W hb => hL.below hb)
  clear hnp hP hi hL
  go_enter Tryz.func28, Tryz.ntmps28
  go_wp2_with fail
  refine kE.mono ?_
  rintro e w2 ⟨⟨er, rfl, her⟩, hb2⟩
  clear kE
  have HER := Lib.hid her
  by_cases he0 : er = 0
  case neg =>
    have q1 : (er != 0) = true := by simpa using he0
    have HE0 := Lib.hid he0
    clear her he0
    go_wp2_with fail
    go_ret2
    exact ⟨⟨er, HER.out, .inl ⟨HE0.out, rfl⟩⟩, hb2⟩
  case pos =>
    subst he0
    have hok : M.mvsOk l ∧ ps.length ≤ 20000 := by
      rcases her with ⟨h1, h2, -⟩ | ⟨-, -, h⟩ | ⟨-, h⟩
      · exact ⟨h1, h2⟩
      · cases h
      · cases h
    have hR := M.rows_ok (ps := ps) hok.1.1
    have hl512 := hok.1.1
    have kD := KD.out w2 hb2 hok.2 hl512
    have HGR : Hid (M.grps ps l = (Dg.ord (M.rows ps l)).map fun v => M.sts l (Dg.scc (M.rows ps l) v)) := Lib.hid rfl
    have HMS : Hid (∀ v, v < l.length → M.mbs l (M.dep (M.rows ps l)) v l.length = M.sts l (Dg.scc (M.rows ps l) v)) := Lib.hid (fun v hv => M.mbs_sts hR (M.rows_len ps l) hv)
    have HGO := Lib.hid (fun (done left : List Nat) (S : Nat) (lst : Nat → Bool) (r : M.RG (M.rows ps l) done left S) (hl : ∀ j, j < l.length → lst j = S.testBit j) (hc : M.cntB l.length lst < l.length) => M.RG.go hR (M.rows_len ps l) r hl hc)
    have HFL := Lib.hid (fun (done left : List Nat) (S : Nat) (lst : Nat → Bool) (r : M.RG (M.rows ps l) done left S) (hl : ∀ j, j < l.length → lst j = S.testBit j) (hc : ¬ M.cntB l.length lst < l.length) => M.RG.full r (fun j hj => by rw [M.rows_len] at hj; rw [← hl j hj]; exact M.cntB_all hc j hj))
    have HST := Lib.hid (M.RG.start hR)
    have HOL : Hid ((Dg.ord (M.rows ps l)).length ≤ 512) := Lib.hid (by
      have h1 := (Dg.ord_perm hR).length_eq
      have h2 := Dg.leads_len (M.rows ps l)
      have h3 := M.rows_len ps l
      omega)
    clear her hok KD hR
    go_wp2_with fail
    refine kD.mono ?_
    rintro e w3 ⟨g, b, rfl, htb, hb3⟩
    clear kD
    obtain ⟨n, hn⟩ : ∃ n, l.length = n := ⟨_, rfl⟩
    have HN := Lib.hid hn
    rw [hn] at hl512 htb HMS HGO HFL ⊢
    clear hn
    generalize M.dep (M.rows ps l) = d at *
    generalize M.rows ps l = R at *
    have B3 := after_ hb2 hb3
    have hgf := htb.far
    have hgl := htb.glt
    have HBL : Hid (∀ i, i < n → b i < w3.heap.size) := Lib.hid (fun i hi => (htb.lt hi).2)
    go_wp2_with (at_make; refine wpList_make_full _ rfl _ _ 104 rfl w3.heap.size 4 ib _ 1 Tryz.underlying104 Hib.out Hzb0.out Hzb1.out .i64 .i64 _ _ n rfl rfl rfl rfl (by rw [Hzb2.out]; omega) (by unfold maxLen; omega) (Nat.le_refl _) ?_; intro w4 hown4 hg4)
    have em := made_flat (cell := blc) (size := 1) (x0 := false) (by decide) (Value.bool false).cells rfl n
    rw [em, fnl_rep] at hown4
    clear em
    have B4 : Below w.heap.size w w4 := B3.grown hg4 B3.size (by simp)
    have hw24 : w2.heap.size ≤ w3.heap.size := hb3.size
    have hw4 : w3.heap.size < w4.heap.size := (own_lt hown4).2
    have htb4 : TB w4 w.heap.size g n n b d := by
      have h1 := htb.kept hg4 (by simp) (by simp)
      exact ⟨own_base h1.outer hb2.size, fun i hi => own_base (h1.row i hi) hb2.size, h1.mono, h1.far⟩
    have gs0 : RGS w w4 g w3.heap.size n w4.heap.size b d (fun _ => false) (.slice none 0 0) [] := ⟨B4, htb4, own_base hown4 B3.size, LO.none_ _ _⟩
    have HS : Hid (w.heap.size ≤ w3.heap.size ∧ g < w3.heap.size ∧ w3.heap.size < w4.heap.size ∧ ∀ i, i < n → b i < w3.heap.size) := Lib.hid ⟨B3.size, hgl.2, hw4, HBL.out⟩
    clear hown4 hg4 htb4 htb hgf hgl HBL hw24 B3 hb2 hb3 hw4
    generalize w3.heap.size = gl at *
    obtain ⟨base, hbase⟩ : ∃ base, w4.heap.size = base := ⟨_, rfl⟩
    have HBW : Hid (base ≤ w4.heap.size) := Lib.hid (by omega)
    rw [hbase] at gs0 HS
    clear hbase
    refine wp_loop_mrg [9, 10, 11, 12, 13, 26, 27, 28, 29, 30, 31, 32, 33, 34, 35, 36, 37, 38, 39, 40, 41, 42, 43, 44, 45, 46, 47, 48, 49, 50, 51, 52, 53, 54, 55, 56, 57, 58, 59, 60, 61, 62, 63, 64, 65, 66, 67, 68, 69, 70, 71, 72, 73, 74, 75, 76, 77, 78, 79, 80, 81, 82, 83, 84, 85, 86] (fun mm f ds W0 => ds = [] ∧ ∃ (dn left : List Nat) (S : Nat) (lst : Nat → Bool) (Ao : Option Addr) (co : Nat) (os : List SLc), f 10 = .int .i64 (M.cntB n lst) ∧ f 9 = .slice Ao os.length co ∧ mm = n - M.cntB n lst ∧ RGS w W0 g gl n base b d lst (.slice Ao os.length co) os ∧ base ≤ W0.heap.size ∧ Hid (M.RG R dn left S ∧ (∀ j, j < n → lst j = S.testBit j) ∧ os.map (·.xs) = dn.map (fun v => M.sts l (Dg.scc R v)))) n ?h0 ?_
    case h0 => exact ⟨rfl, [], Dg.leads R, 0, fun _ => false, none, 0, [], by rw [show M.cntB n (fun _ => false) = 0 by simp [M.cntB]]; rfl, rfl, by rw [show M.cntB n (fun _ => false) = 0 by simp [M.cntB]]; rfl, gs0, HBW.out, Lib.hid ⟨HST.out, fun j _ => by rw [Nat.zero_testBit], rfl⟩⟩
    clear gs0 HST
    intro c1' T1' hc2 hT2
    rintro mm f ds W0 ⟨rfl, dn, left, S, lst, Ao, co, os, hf10, hf9, rfl, gs, hbw, HI⟩
    replace hc2 := hc2.out
    subst hc2
    replace hT2 := hT2.out
    subst hT2
    generalize hF : mrgF _ 0 _ _ = F
    simp only [mrg_hit, mrg_miss, mrg_end, Nat.reduceBEq, Nat.reduceAdd] at hF
    rw [hf10, hf9] at hF
    subst hF
    have HCN := Lib.hid (M.cntB_le n lst)
    by_cases hlt : M.cntB n lst < n
    · obtain ⟨v, hv, hlv, hrv, hbf, hmb, left', S', hrg, hls⟩ := HGO.out dn left S lst HI.out.1 HI.out.2.1 hlt
      have HLV := Lib.hid hlv; have HRV := Lib.hid hrv; have HBF := Lib.hid hbf; have HMB := Lib.hid hmb; have HNX := Lib.hid (And.intro hrg hls)
      have HOS : Hid (os.map (·.xs) = dn.map (fun v => M.sts l (Dg.scc R v))) := Lib.hid HI.out.2.2
      have HRG := Lib.hid HI.out
      clear hlv hrv hbf hmb hrg hls HI
      obtain ⟨mn, hmn⟩ : ∃ mn, M.cntB n lst = mn := ⟨_, rfl⟩
      have HMN := Lib.hid hmn
      rw [hmn] at hlt ⊢
      clear hmn
      have x1 : (mn : Int) < (n : Int) := by omega
      have q0 : decide ((mn : Int) < (n : Int)) = true := decide_eq_true x1
      go_wp2_with fail
      have HBA := Lib.hid (fun (a : Nat) (ha : a < n) => (gs.bl.at ha).1)
      have HKR := Lib.hid (fun (a : Nat) (ha : a < n) => rReady_ok g gl n a w.heap.size b d lst W0 gs.tb gs.bl ha (by omega))
      refine wp_loop_mrg [11, 30, 31, 32, 33, 34, 35, 36, 37, 38, 39, 40, 41, 42] (fun mm f ds W1 => ds = [] ∧ ∃ (a : Nat), f 11 = .int .i64 a ∧ mm = v - a ∧ a ≤ v ∧ W1 = W0) v ⟨rfl, 0, rfl, rfl, Nat.zero_le _, rfl⟩ ?_
      intro c2' T2' hc2 hT2
      rintro mm f ds W1 ⟨rfl, a, hf11, rfl, ha, hW1⟩
      replace hc2 := hc2.out
      subst hc2
      replace hT2 := hT2.out
      subst hT2
      generalize hF : mrgF _ 0 _ _ = F
      simp only [mrg_hit, mrg_miss, mrg_end, Nat.reduceBEq, Nat.reduceAdd] at hF
      rw [hf11] at hF
      subst hF
      subst hW1
      have hc := HBA.out a (by omega)
      have kR := HKR.out a (by omega)
      have x2 : (0 : Int) ≤ (a : Int) := by omega
      have x3 : (a : Int) < (n : Int) := by omega
      by_cases hav : a < v
      · obtain ⟨r1, hr1⟩ : ∃ r, lst a = r := ⟨_, rfl⟩
        rw [hr1] at hc
        cases r1 with
        | true =>
          clear hr1 kR
          have hund : undef = Value.tuple #[] := rfl
          go_wp2_with fail
          exact ⟨_, rfl, rfl, v - (a + 1), by omega, by trivial, a + 1, rfl, rfl, hav, by trivial⟩
        | false =>
          have hrf : M.rdyT d lst n a = false := by
            rcases HBF.out a hav with h | h
            · rw [hr1] at h; cases h
            · exact h
          rw [hrf] at kR
          clear hrf hr1
          go_wp2_with fail
          refine kR.mono ?_
          rintro e w5 ⟨rfl, rfl⟩
          go_wp2_with fail
          exact ⟨_, rfl, rfl, v - (a + 1), by omega, by trivial, a + 1, rfl, rfl, hav, by trivial⟩
      · obtain rfl : v = a := by omega
        rw [HLV.out] at hc
        rw [HRV.out] at kR
        clear hav ha
        go_wp2_with fail
        refine kR.mono ?_
        rintro e w5 ⟨rfl, rfl⟩
        clear hc HBA HKR
        go_wp2_with fail
        have gk0 : RGS w W1 g gl n base b d (M.lstK lst d v 0) (.slice Ao os.length co) os := by rw [M.lstK_zero]; exact gs
        have HMN0 : Hid (Value.int IntKind.i64 (mn : Int) = .int .i64 (M.cntB n (M.lstK lst d v 0) : Nat)) := Lib.hid (by rw [M.lstK_zero, HMN.out])
        have HLT := Lib.hid gs.lts
        clear gs
        refine wp_loop_mrg [10, 12, 13, 43, 44, 45, 46, 47, 48, 49, 50, 51, 52, 53, 54, 55, 56, 57, 58, 59, 60, 61, 62, 63, 64, 65, 66, 67, 68, 69, 70, 71, 72, 73, 74, 75, 76, 77, 78, 79, 80, 81, 82] (fun mm f ds W2 => ds = [] ∧ ∃ (k : Nat) (As : Option Addr) (cs : Nat), f 13 = .int .i64 k ∧ f 12 = .slice As (M.mbs l d v k).length cs ∧ f 10 = .int .i64 (M.cntB n (M.lstK lst d v k) : Nat) ∧ mm = n - k ∧ k ≤ n ∧ RGS w W2 g gl n base b d (M.lstK lst d v k) (.slice Ao os.length co) os ∧ W2.ownsRow W1.heap.size 3 1 (.slice As (M.mbs l d v k).length cs) (M.mbs l d v k).length (flat 1 icell (M.mbs l d v k)) ∧ W1.heap.size ≤ W2.heap.size) n ⟨rfl, 0, none, 0, rfl, rfl, HMN0.out, rfl, Nat.zero_le _, gk0, own_nil _ _ _ _ _, Nat.le_refl _⟩ ?_
        clear gk0 HMN0
        intro c3' T3' hc2 hT2
        rintro mm f ds W2 ⟨rfl, k, As, cs, hf13, hf12, hf10, rfl, hk, gk, hrow, hW12⟩
        replace hc2 := hc2.out
        subst hc2
        replace hT2 := hT2.out
        subst hT2
        generalize hF : mrgF _ 0 _ _ = F
        simp only [mrg_hit, mrg_miss, mrg_end, Nat.reduceBEq, Nat.reduceAdd] at hF
        rw [hf13, hf12, hf10] at hF
        subst hF
        by_cases hltk : k < n
        · have x0k : (0 : Int) ≤ (k : Int) := by omega
          have x1k : (k : Int) < (n : Int) := by omega
          have q0k : decide ((k : Int) < (n : Int)) = true := decide_eq_true x1k
          have hhv := gk.tb.head (Nat.le_refl _) hv
          have hhk := gk.tb.head (Nat.le_refl _) hltk
          have v1 := (gk.tb.at hv hltk).1
          have v2 := (gk.tb.at hltk hv).1
          obtain ⟨lm, hlm, hlmb, m0, -⟩ := (HL.out W2 gk.bel).mv6 (show k < l.length by rw [HN.out]; exact hltk)
          rw [M.stv_at] at m0
          obtain ⟨r1, hr1⟩ : ∃ r, d v k = r := ⟨_, rfl⟩
          obtain ⟨r2, hr2⟩ : ∃ r, d k v = r := ⟨_, rfl⟩
          rw [hr1] at v1
          rw [hr2] at v2
          obtain ⟨q, hq⟩ : ∃ q, M.cntB n (M.lstK lst d v k) = q := ⟨_, rfl⟩
          have HQ := Lib.hid hq
          rw [hq]
          have hqn : q ≤ n := by rw [← hq]; exact M.cntB_le _ _
          clear hq
          have hbl := M.mbs_len l d v k
          subst hlm
          by_cases hkv : k = v
          · have HG : Hid (M.inG d v k = true) := Lib.hid (by rw [hkv]; exact M.inG_own d v)
            have qc : ((k : Int) == (v : Int)) = true := by simpa using (by omega : (k : Int) = (v : Int))
            clear hkv
            have HLY : Hid (M.lstK lst d v (k + 1) = M.setB (M.lstK lst d v k) k) := Lib.hid (M.lstK_yes HG.out)
            have HMY : Hid (M.mbs l d v (k + 1) = M.mbs l d v k ++ [M.stv l k]) := Lib.hid (M.mbs_yes HG.out)
            have HCY : Hid (Value.int IntKind.i64 ((q : Int) + 1) = .int .i64 (M.cntB n (M.lstK lst d v (k + 1)) : Nat)) := Lib.hid (by rw [HLY.out, M.cntB_set (M.lstK_own (HMB.out k hltk HG.out)) hltk, HQ.out]; rfl)
            clear HG hr1 hr2 HQ
            try clear hkv
            generalize M.stv l k = sx at *
            generalize M.lstK lst d v k = lk at *
            generalize M.mbs l d v k = ms at *
            have HGB := Lib.hid (fun (W : World) (hg : W2.grownBy W (Value.slice As ms.length cs).ownBlock) => gk.grow (C := W1.heap.size) hg (fun r e => (hrow.lt r e).1) (Nat.le_trans HS.out.1 (Nat.le_of_lt HLT.out.2.1)) HLT.out)
            have hund : undef = Value.tuple #[] := rfl
            go_wp2_with (at_builtin; refine wpList_push (w0 := w) (cell := icell) (y := sx) rfl _ _ _ rfl W1.heap.size w.heap.size 3 ii _ 8 Tryz.underlying29 Hii.out Hzi0.out Hzi1.out Hzi2.out rfl (by decide) _ _ _ rfl hrow _ _ rfl _ rfl (fun _ => rfl) (by unfold maxLen; omega) (by omega) hW12 (Nat.le_trans HS.out.1 (Nat.le_of_lt HLT.out.2.1)) gk.bel ?_; intro v' w8 hown8 hb8 hg8; obtain ⟨g8, cap8, rfl⟩ := ownsRow_succ hown8; have g9 := HGB.out _ hg8; obtain ⟨c9, f9⟩ := g9.bl.at hltk)
            have g10 := g9.list HS.out hltk
            have hlt8 := own_lt hown8
            have hgl8 := HLT.out.2.1
            have hr10 := World.ownsRow.kept hown8 (grown_set w8 gl k (.bool true)) (.inr (fun e => by have e2 : g8 = gl := Option.some.inj e; omega))
            refine ⟨_, rfl, rfl, n - (k + 1), by omega, by trivial, k + 1, some ⟨g8, 0, none⟩, cap8, rfl, ?_, HCY.out, rfl, hltk, ?_, ?_, ?_⟩
            · rw [HMY.out, List.length_append]; rfl
            · rw [HLY.out]; exact g10
            · rw [HMY.out, List.length_append]; exact hr10
            · exact Nat.le_trans hW12 (Nat.le_trans hg8.size (by simp))
          have qc : ((k : Int) == (v : Int)) = false := by simpa using (by omega : ¬ (k : Int) = (v : Int))
          cases r1 with
          | false =>
            have HG : Hid (M.inG d v k = false) := Lib.hid (by rw [M.inG_ne hkv, hr1, Bool.false_and])
            have HLY : Hid (M.lstK lst d v (k + 1) = M.lstK lst d v k) := Lib.hid (M.lstK_no HG.out)
            have HMY : Hid (M.mbs l d v (k + 1) = M.mbs l d v k) := Lib.hid (M.mbs_no HG.out)
            clear HG hr1 hr2 hkv
            have hund : undef = Value.tuple #[] := rfl
            go_wp2_with fail
            refine ⟨_, rfl, rfl, n - (k + 1), by omega, by trivial, k + 1, As, cs, rfl, ?_, ?_, rfl, hltk, ?_, ?_, hW12⟩
            · rw [HMY.out]; rfl
            · rw [HLY.out, HQ.out]; rfl
            · rw [HLY.out]; exact gk
            · rw [HMY.out]; exact hrow
          | true =>
          cases r2 with
          | false =>
            have HG : Hid (M.inG d v k = false) := Lib.hid (by rw [M.inG_ne hkv, hr1, hr2, Bool.and_false])
            have HLY : Hid (M.lstK lst d v (k + 1) = M.lstK lst d v k) := Lib.hid (M.lstK_no HG.out)
            have HMY : Hid (M.mbs l d v (k + 1) = M.mbs l d v k) := Lib.hid (M.mbs_no HG.out)
            clear HG hr1 hr2 hkv
            have hund : undef = Value.tuple #[] := rfl
            go_wp2_with fail
            refine ⟨_, rfl, rfl, n - (k + 1), by omega, by trivial, k + 1, As, cs, rfl, ?_, ?_, rfl, hltk, ?_, ?_, hW12⟩
            · rw [HMY.out]; rfl
            · rw [HLY.out, HQ.out]; rfl
            · rw [HLY.out]; exact gk
            · rw [HMY.out]; exact hrow
          | true =>
            have HG : Hid (M.inG d v k = true) := Lib.hid (by rw [M.inG_ne hkv, hr1, hr2]; rfl)
            have HLY : Hid (M.lstK lst d v (k + 1) = M.setB (M.lstK lst d v k) k) := Lib.hid (M.lstK_yes HG.out)
            have HMY : Hid (M.mbs l d v (k + 1) = M.mbs l d v k ++ [M.stv l k]) := Lib.hid (M.mbs_yes HG.out)
            have HCY : Hid (Value.int IntKind.i64 ((q : Int) + 1) = .int .i64 (M.cntB n (M.lstK lst d v (k + 1)) : Nat)) := Lib.hid (by rw [HLY.out, M.cntB_set (M.lstK_own (HMB.out k hltk HG.out)) hltk, HQ.out]; rfl)
            clear HG hr1 hr2 HQ
            try clear hkv
            generalize M.stv l k = sx at *
            generalize M.lstK lst d v k = lk at *
            generalize M.mbs l d v k = ms at *
            have HGB := Lib.hid (fun (W : World) (hg : W2.grownBy W (Value.slice As ms.length cs).ownBlock) => gk.grow (C := W1.heap.size) hg (fun r e => (hrow.lt r e).1) (Nat.le_trans HS.out.1 (Nat.le_of_lt HLT.out.2.1)) HLT.out)
            have hund : undef = Value.tuple #[] := rfl
            go_wp2_with (at_builtin; refine wpList_push (w0 := w) (cell := icell) (y := sx) rfl _ _ _ rfl W1.heap.size w.heap.size 3 ii _ 8 Tryz.underlying29 Hii.out Hzi0.out Hzi1.out Hzi2.out rfl (by decide) _ _ _ rfl hrow _ _ rfl _ rfl (fun _ => rfl) (by unfold maxLen; omega) (by omega) hW12 (Nat.le_trans HS.out.1 (Nat.le_of_lt HLT.out.2.1)) gk.bel ?_; intro v' w8 hown8 hb8 hg8; obtain ⟨g8, cap8, rfl⟩ := ownsRow_succ hown8; have g9 := HGB.out _ hg8; obtain ⟨c9, f9⟩ := g9.bl.at hltk)
            have g10 := g9.list HS.out hltk
            have hlt8 := own_lt hown8
            have hgl8 := HLT.out.2.1
            have hr10 := World.ownsRow.kept hown8 (grown_set w8 gl k (.bool true)) (.inr (fun e => by have e2 : g8 = gl := Option.some.inj e; omega))
            refine ⟨_, rfl, rfl, n - (k + 1), by omega, by trivial, k + 1, some ⟨g8, 0, none⟩, cap8, rfl, ?_, HCY.out, rfl, hltk, ?_, ?_, ?_⟩
            · rw [HMY.out, List.length_append]; rfl
            · rw [HLY.out]; exact g10
            · rw [HMY.out, List.length_append]; exact hr10
            · exact Nat.le_trans hW12 (Nat.le_trans hg8.size (by simp))
        · obtain rfl : n = k := by omega
          have q0 : decide ((n : Int) < (n : Int)) = false := decide_eq_false (by omega)
          have HCS : Hid (#[Value.slice As (M.mbs l d v n).length cs].toList = (List.range 1).map (slcell ⟨As, cs, M.mbs l d v n⟩)) := Lib.hid (by simp [slcell])
          have HOM : Hid (os.length ≤ 512) := Lib.hid (by
            have h1 := congrArg List.length HOS.out
            have h2 := congrArg List.length HRG.out.1.eq
            have h3 := HOL.out
            simp at h1 h2
            omega)
          have HMS2 := Lib.hid (HMS.out v hv)
          generalize M.mbs l d v n = ms at *
          have hbW := Nat.le_trans hbw hW12
          go_wp2_with (at_builtin; refine wpList_push (w0 := w) (cell := slcell) (y := (⟨As, cs, ms⟩ : SLc)) rfl _ _ _ rfl base w.heap.size 29 il _ 24 Tryz.underlying39 Hil.out Hzl0.out Hzl1.out Hzl2.out rfl (by decide) _ _ _ rfl gk.lo.outer _ _ HCS.out _ rfl (sl_one _) (by have := HOM.out; unfold maxLen; omega) (by have := HOM.out; omega) hbW (Nat.le_trans HS.out.1 (Nat.le_of_lt HS.out.2.2.1)) gk.bel ?_; intro v' w8 hown8 hb8 hg8; obtain ⟨g8, cap8, rfl⟩ := ownsRow_succ hown8)
          have g9 := gk.push (s := ⟨As, cs, ms⟩) (own_base hrow hbw) hb8 hown8 hg8
          have hmore := M.cntB_more (d := d) hv HLV.out
          have hle := M.cntB_le n (M.lstK lst d v n)
          refine ⟨rfl, n - M.cntB n (M.lstK lst d v n), ?_, dn ++ [v], left', S', M.lstK lst d v n, rfl, some ⟨g8, 0, none⟩, cap8, os ++ [⟨As, cs, ms⟩], ?_, rfl, ?_, Nat.le_trans hbW hg8.size, Lib.hid ⟨HNX.out.1, HNX.out.2, ?_⟩⟩
          · have := HMN.out; omega
          · rw [List.length_append]; rfl
          · rw [List.length_append]; exact g9
          · rw [List.map_append, List.map_append, HOS.out, List.map_singleton, List.map_singleton, HMS2.out]
    · have HEND : Hid (os.map (·.xs) = M.grps ps l) := Lib.hid (by rw [HI.out.2.2, HGR.out, HFL.out dn left S lst HI.out.1 HI.out.2.1 hlt])
      have q0 : decide ((M.cntB n lst : Int) < (n : Int)) = false := decide_eq_false (by omega)
      generalize M.cntB n lst = mn at *
      go_wp2_with fail
      go_ret2
      exact ⟨⟨0, HER.out, .inr ⟨rfl, Ao, co, os, rfl, ⟨own_base gs.lo.outer (Nat.le_trans HS.out.1 (Nat.le_of_lt HS.out.2.2.1)), fun s hs => own_base (gs.lo.inner s hs) (Nat.le_trans HS.out.1 (Nat.le_of_lt HS.out.2.2.1))⟩, HEND.out⟩⟩, gs.bel⟩
end Go.Proofs.YtpkepgcmifdpfaaGreatDoor
end

section
namespace Go.Proofs.YtpkepgcmifdpfaaGreatDoor
open Go Go.RowKit
set_option maxRecDepth 100000
namespace Bs
end Bs
namespace M
end M
end Go.Proofs.YtpkepgcmifdpfaaGreatDoor
end

section
namespace Go.Proofs.YtpkepgcmifdpfaaGreatDoor
open Go Go.RowKit
set_option maxRecDepth 100000
end Go.Proofs.YtpkepgcmifdpfaaGreatDoor
end

section
namespace Go.Proofs.YtpkepgcmifdpfaaGreatDoor
open Go Go.RowKit
set_option maxRecDepth 100000
namespace Dg
end Dg
theorem Box.same {w : World} {b : Nat} {cs : Array Value} {t : TypeId} (h : Box w b cs t) {i : Nat} {v : Value} (hv : cs[i]? = some v) : w.setCell ⟨b, i, none⟩ v = w := by
  have hh : (w.setCell ⟨b, i, none⟩ v).heap = w.heap := by
    apply Array.ext_getElem?
    intro k
    by_cases e : b = k
    · subst e
      have h1 := h.set i v
      unfold Box at h h1
      rw [h1, h]
      have : cs.setIfInBounds i v = cs := by
        apply Array.ext_getElem?
        intro j
        rw [Array.getElem?_setIfInBounds]
        split
        · rename_i e; subst e
          split
          · exact hv.symm
          · rename_i hj
            rw [Array.getElem?_eq_none (by omega)] at hv
            cases hv
        · rfl
      rw [this]
    · exact heap_setCell_other w ⟨b, i, none⟩ k v (fun h => e h.symm)
  show { w with heap := (w.setCell ⟨b, i, none⟩ v).heap } = w
  rw [hh]
structure DS (w2 W : World) (base n g9 b9 : Nat) (D : Nat → Nat) (v : Value) (ls : List SLc) : Prop where
  bel : Below w2.heap.size w2 W
  lo : LO W base v ls
  x9 : Box W b9 #[.slice (some ⟨g9, 0, none⟩) n n] 29
  o9 : W.ownsRow w2.heap.size 3 1 (.slice (some ⟨g9, 0, none⟩) n n) n (flat 1 icell (Dg.fl n fun j => (D j : Int)))
section
variable {w2 W W' : World} {base n g9 b9 : Nat} {D : Nat → Nat} {v : Value} {ls : List SLc}
theorem DS.next (h : DS w2 W base n g9 b9 D v ls) (hb : Below W.heap.size W W') : DS w2 W' base n g9 b9 D v ls :=
  ⟨after_ h.bel hb, h.lo.below hb, h.x9.below hb, own_below h.o9 hb⟩
theorem DS.own {row : Option Nat} {B : Nat} (h : DS w2 W base n g9 b9 D v ls) (hB : w2.heap.size ≤ B) (hg : W.grownBy W' row) (hr : ∀ r, row = some r → B ≤ r ∧ ∃ o : Obj, W.heap[r]? = some o ∧ o.isCells = false) : DS w2 W' base n g9 b9 D v ls :=
  ⟨below_own h.bel hB h.bel.size hg hr, h.lo.own hg hr, h.x9.own hg hr, row_own h.o9 hg hr⟩
theorem DS.cell {b i : Nat} (h : DS w2 W base n g9 b9 D v ls) (hs : w2.heap.size ≤ g9 ∧ g9 < b9) (hb : b9 < b) (hlv : v.ownBlock ≠ some b) (hli : ∀ s ∈ ls, (Value.slice s.A s.xs.length s.c).ownBlock ≠ some b) (u : Value) : DS w2 (W.setCell ⟨b, i, none⟩ u) base n g9 b9 D v ls :=
  ⟨h.bel.setCell (p := ⟨b, i, none⟩) (by dsimp only; omega) _, h.lo.off (grown_set W b i u) hlv hli, h.x9.set_other (by dsimp only; omega) _, h.o9.kept (grown_set W b i u) (.inr (fun e => by have e2 : g9 = b := Option.some.inj e; omega))⟩
theorem DS.set (h : DS w2 W base n g9 b9 D v ls) (hs : w2.heap.size ≤ g9 ∧ g9 < b9) (hb : b9 < base) {x : Nat} (hx : x < n) (y : Nat) : DS w2 (W.setCell ⟨g9, x, none⟩ (.int .i64 y)) base n g9 b9 (fun j => if j = x then y else D j) v ls := by
  refine ⟨h.bel.setCell (p := ⟨g9, x, none⟩) (by dsimp only; omega) _, h.lo.far (grown_set W g9 x _) (by omega), h.x9.set_other (by dsimp only; omega) _, ?_⟩
  have h3 := own_set (size := 1) (cell := icell) h.o9 (k := x) (by rw [Dg.fl_len]; exact hx) (j := 0) (y := (y : Int)) (u := .int .i64 y) (by decide) rfl (fun j' h1 h2 => absurd h1 (by omega))
  rw [Nat.mul_one, Nat.add_zero, Dg.fl_set] at h3
  have e : (fun j => if j = x then (y : Int) else (D j : Int)) = fun j => ((if j = x then y else D j : Nat) : Int) := by funext j; split <;> rfl
  rw [e] at h3
  exact h3
theorem DS.at (h : DS w2 W base n g9 b9 D v ls) {x : Nat} (hx : x < n) : W.cell? ⟨g9, x, none⟩ = some (.int .i64 (D x)) ∧ W.frozen? ⟨g9, x, none⟩ = false := by
  have := own_at h.o9 (k := x) (j := 0) (by rw [Dg.fl_len]; exact hx) (by decide)
  rw [Nat.mul_one, Nat.add_zero] at this
  refine ⟨this.1.trans ?_, this.2⟩
  rw [Dg.fl_at]
  rfl
end
end Go.Proofs.YtpkepgcmifdpfaaGreatDoor
end

section
namespace Go.Proofs.YtpkepgcmifdpfaaGreatDoor
open Go Go.RowKit
set_option maxRecDepth 100000
namespace M
def setL (L : Nat → Nat) (i a : Nat) : Nat → Nat := fun j => if j = i then a else L j
end M
abbrev NR (w : World) (base g n : Nat) (L : Nat → Nat) : Prop := w.ownsRow base 3 1 (.slice (some ⟨g, 0, none⟩) n n) n (flat 1 icell (Dg.fl n fun j => (L j : Int)))
theorem NR.at {w : World} {base g n : Nat} {L : Nat → Nat} (h : NR w base g n L) {k : Nat} (hk : k < n) : w.cell? ⟨g, k, none⟩ = some (.int .i64 (L k)) ∧ w.frozen? ⟨g, k, none⟩ = false := by
 have := own_at h (k := k) (j := 0) (by rw [Dg.fl_len]; exact hk) (by decide)
 rw [Nat.mul_one, Nat.add_zero] at this
 refine ⟨this.1.trans ?_, this.2⟩
 rw [Dg.fl_at]
 rfl
theorem NR.set {w : World} {base g n : Nat} {L : Nat → Nat} (h : NR w base g n L) {k : Nat} (hk : k < n) (y : Nat) : NR (w.setCell ⟨g, k, none⟩ (.int .i64 y)) base g n (M.setL L k y) := by
 have h3 := own_set (size := 1) (cell := icell) h (k := k) (by rw [Dg.fl_len]; exact hk) (j := 0) (y := (y : Int)) (u := .int .i64 y) (by decide) rfl (fun j' h1 h2 => absurd h1 (by omega))
 rw [Nat.mul_one, Nat.add_zero, Dg.fl_set] at h3
 have e : (fun j => if j = k then (y : Int) else (L j : Int)) = fun j => ((M.setL L k y j : Nat) : Int) := by funext j; unfold M.setL; split <;> rfl
 rw [e] at h3
 exact h3
theorem NR.congr {w : World} {base g n : Nat} {L L' : Nat → Nat} (h : NR w base g n L) (e : L = L') : NR w base g n L' := e ▸ h
end Go.Proofs.YtpkepgcmifdpfaaGreatDoor
end

section
namespace Go.Proofs.YtpkepgcmifdpfaaGreatDoor
open Go Go.RowKit
set_option maxRecDepth 100000
namespace M
end M
end Go.Proofs.YtpkepgcmifdpfaaGreatDoor
end

section
namespace Go.Proofs.YtpkepgcmifdpfaaGreatDoor
open Go Go.RowKit
set_option maxRecDepth 100000
structure LW (w W : World) (PA LA : Option Addr) (ps : List P5) (l : List Mv) : Prop where
 bel : Below w.heap.size w W
 tab0 : Tab64 w
 p0 : Sl 5 p5cell w w.heap.size PA ps
 l0 : Sl 6 mvcell w w.heap.size LA l
 ints : M.Ints ps l
section
variable {w W W' : World} {PA LA : Option Addr} {ps : List P5} {l : List Mv}
theorem LW.next (h : LW w W PA LA ps l) (hb : Below W.heap.size W W') : LW w W' PA LA ps l := ⟨after_ h.bel hb, h.tab0, h.p0, h.l0, h.ints⟩
theorem LW.tab (h : LW w W PA LA ps l) : Tab64 W := h.tab0.kept h.bel
theorem LW.pairs (h : LW w W PA LA ps l) : Sl 5 p5cell W W.heap.size PA ps := (h.p0.below h.bel).more h.bel.size
theorem LW.moves (h : LW w W PA LA ps l) : Sl 6 mvcell W W.heap.size LA l := (h.l0.below h.bel).more h.bel.size
theorem LW.iw (h : LW w W PA LA ps l) : ∀ p ∈ ps, M.W64 p.a ∧ M.W64 p.b := fun p hp => ⟨(h.ints.p p hp).1, (h.ints.p p hp).2.1⟩
end
end Go.Proofs.YtpkepgcmifdpfaaGreatDoor
end

section
namespace Go.Proofs.YtpkepgcmifdpfaaGreatDoor
open Go Go.RowKit
set_option maxRecDepth 100000
namespace M
theorem err_ok {ps : List P5} {l : List Mv} {a : Int} (h : errIs ps l a) (hp : ps.length ≤ 20000) (hok : mvsOk l) : a = 0 := by
  rcases h with ⟨-, -, h⟩ | ⟨-, h2, -⟩ | ⟨h1, -⟩
  · exact h
  · omega
  · exact absurd hok h1
end M
section
variable {w W : World} {PA LA : Option Addr} {ps : List P5} {l : List Mv}
theorem LW.groups (h : LW w W PA LA ps l) (pc lc : Nat) (hp : ps.length ≤ 20000) (hl : l.length ≤ 512) (hok : M.mvsOk l) : Calls Tryz.prog 72 #[.slice PA ps.length pc, .slice LA l.length lc] W fun e w' => (∃ A c ls, e = .returned (.tuple #[.slice A ls.length c, .int .i64 0]) ∧ LO w' W.heap.size (.slice A ls.length c) ls ∧ ls.map (·.xs) = M.grps ps l) ∧ Below W.heap.size W w' := by
  refine (groups_ok PA pc ps.length ps LA lc l W h.tab rfl h.pairs h.moves (by omega) h.iw).mono ?_
  rintro e w' ⟨⟨er, her, hc⟩, hb⟩
  refine ⟨?_, hb⟩
  rcases hc with ⟨h1, -⟩ | ⟨-, A, c, ls, rfl, hlo, hls⟩
  · exact absurd (M.err_ok her hp hok) h1
  · exact ⟨A, c, ls, rfl, hlo, hls⟩
theorem LW.legal (h : LW w W PA LA ps l) (pc lc : Nat) (OA : Option Addr) (oc : Nat) (os : List SLc) (hO : LL W OA os) (hol : os.length ≤ 9223372036854775806) (hoi : ∀ s ∈ os, s.xs.length ≤ 9223372036854775806 ∧ ∀ x ∈ s.xs, M.W64 x) (hp : ps.length ≤ 20000) (hl : l.length ≤ 512) (hok : M.mvsOk l) : Calls Tryz.prog 67 #[.slice PA ps.length pc, .slice LA l.length lc, .slice OA os.length oc] W fun e w' => e = .returned (.int .i64 (M.legal ps l (os.map (·.xs)))) ∧ Below W.heap.size W w' := by
  refine (legal_ok PA pc ps.length ps LA lc l OA oc os W h.tab rfl h.pairs h.moves (by omega) h.iw hO hol hoi).mono ?_
  rintro e w' ⟨⟨er, her, hc⟩, hb⟩
  refine ⟨?_, hb⟩
  rcases hc with ⟨h1, -⟩ | ⟨-, rfl⟩
  · exact absurd (M.err_ok her hp hok) h1
  · rfl
end
end Go.Proofs.YtpkepgcmifdpfaaGreatDoor
end
