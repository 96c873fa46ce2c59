/- A bundle of texts: Rd5, Rd6, Rd7, Ld, LdFo, Ld2, LdGr, LdLe. -/
import Derived.Test.YtceobfigfmnacaaDoorD24
import Derived.Test.YtceobfigfmnacaaDoorD22
import Derived.Test.YtceobfigfmnacaaDoorD18
section
namespace Go.Proofs.YtceobfigfmnacaaDoor
open Go Go.RowKit
set_option maxRecDepth 100000
theorem M.any_two {vs us : List Nat} {p : Nat → Nat → Bool} (h : ∀ i (hi : i < vs.length), (us.any fun b => p vs[i] b) = false) : (vs.any fun a => us.any fun b => p a b) = false := by
  rw [List.any_eq_false]
  intro x hx
  obtain ⟨i, hi, rfl⟩ := List.getElem_of_mem hx
  rw [h i hi]; decide
theorem M.any_one {us : List Nat} {p : Nat → Bool} (h : ∀ i (hi : i < us.length), p us[i] = false) : us.any p = false := by
  rw [List.any_eq_false]
  intro x hx
  obtain ⟨i, hi, rfl⟩ := List.getElem_of_mem hx
  rw [h i hi]; decide
theorem M.any_yes {vs us : List Nat} {p : Nat → Nat → Bool} {i k : Nat} (hi : i < vs.length) (hk : k < us.length) (h : p vs[i] us[k] = true) : (vs.any fun a => us.any fun b => p a b) = true := by
  rw [List.any_eq_true]
  refine ⟨_, List.getElem_mem hi, ?_⟩
  rw [List.any_eq_true]
  exact ⟨_, List.getElem_mem hk, h⟩
set_option maxHeartbeats 32000000 in
theorem rLinked_ok (PA : Option Addr) (pc np : Nat) (ps : List P5) (LA : Option Addr) (lc : Nat) (l : List Mv) (XA YA : Option Addr) (xc yc nx ny : Nat) (vs us : List Nat) (w : World) (hnp : np = ps.length) (hP : Sl 5 p5cell w w.heap.size PA ps) (hL : Sl 6 mvcell w w.heap.size LA l) (hpl : ps.length ≤ 20000) (hok : M.mvsOk l) (hi : M.Ints ps l)
    (hX : Sl 1 icell w w.heap.size XA (vs.map (M.stv l))) (hY : Sl 1 icell w w.heap.size YA (us.map (M.stv l))) (hnx : nx = vs.length) (hny : ny = us.length) (hvl : vs.length ≤ 512) (hul : us.length ≤ 512) (hv : ∀ x ∈ vs, x < l.length) (hu : ∀ x ∈ us, x < l.length) :
    Calls Tryd.prog 40 #[.slice PA np pc, .slice LA l.length lc, .slice XA nx xc, .slice YA ny yc] w fun e w' => e = .returned (.bool (vs.any fun a => us.any fun b => M.dep0 (M.rows ps l) a b)) ∧ Below w.heap.size w w' := by
  subst hnx hny
  have KW := Lib.hid (fun (i k : Nat) (h1 : i < l.length) (h2 : k < l.length) (u : World) (hu : Below w.heap.size w u) => rWaits_in PA pc np ps l w hnp hP (by omega) hi h1 h2 u hu)
  have KA := Lib.hid (fun (i : Nat) (h1 : i < l.length) (u : World) (hu : Below w.heap.size w u) => (show Calls Tryd.prog 38 #[.slice LA l.length lc, .int .i64 (M.stv l i)] u fun e w' => e = .returned (.int .i64 (i : Nat)) ∧ Below u.heap.size u w' from by
    have h2 := rAt_ok LA lc l (M.stv l i) u ((hL.below hu).more hu.size) (by have := hok.1; omega)
    unfold M.idxI at h2
    rw [← M.stv_at h1, M.idx_at hok.2.2 h1, M.stv_at h1] at h2
    exact h2))
  have HL : Hid (∀ W, Below w.heap.size w W → Sl 6 mvcell W w.heap.size LA l) := Lib.hid (fun W hb => hL.below hb)
  have HX : Hid (∀ W, Below w.heap.size w W → Sl 1 icell W w.heap.size XA (vs.map (M.stv l))) := Lib.hid (fun W hb => hX.below hb)
  have HY : Hid (∀ W, Below w.heap.size w W → Sl 1 icell W w.heap.size YA (us.map (M.stv l))) := Lib.hid (fun W hb => hY.below hb)
  have HV := Lib.hid hv; have HU := Lib.hid hu
  have hll := hok.1
  clear hnp hP hi hL hX hY hv hu hok
  generalize M.dep0 (M.rows ps l) = d0 at *
  obtain ⟨res, hres⟩ : ∃ r, (vs.any fun a => us.any fun b => d0 a b) = r := ⟨_, rfl⟩
  have HRES := Lib.hid hres
  rw [hres]
  clear hres
  go_enter Tryd.func40, Tryd.ntmps40
  go_wp2_with fail
  refine wp_loop_mrg [9, 10, 11, 12, 13, 14, 15, 16, 17, 18, 19, 20, 21, 22, 23, 24, 25, 26, 27, 28, 29, 30, 31, 32, 33, 34, 35, 36, 37, 38, 39, 40, 41, 42] (fun mm f ds W0 => ds = [] ∧ ∃ (a : Nat), f 9 = .int .i64 a ∧ mm = vs.length - a ∧ a ≤ vs.length ∧ Below w.heap.size w W0 ∧ Hid (∀ i (hi : i < vs.length), i < a → (us.any fun b => d0 vs[i] b) = false)) vs.length ⟨rfl, 0, rfl, rfl, Nat.zero_le _, Below.refl _ _, Lib.hid (fun i _ h => absurd h (by omega))⟩ ?_
  intro c1' T1' hc2 hT2
  rintro mm f ds W0 ⟨rfl, a, hf9, rfl, ha, hB, HA⟩
  replace hc2 := hc2.out
  subst hc2
  replace hT2 := hT2.out
  subst hT2
  generalize hF : mrgF _ 0 _ _ = F
  simp only [mrg_hit, mrg_miss, mrg_nil, Nat.reduceBEq, Nat.reduceAdd] at hF
  rw [hf9] at hF
  subst hF
  by_cases hlt : a < vs.length
  · have x0a : (0 : Int) ≤ (a : Int) := by omega
    have x1a : (a : Int) < (vs.length : Int) := by omega
    have q0a : decide ((a : Int) < (vs.length : Int)) = true := decide_eq_true x1a
    go_wp2_with fail
    refine wp_loop_mrg [10, 17, 18, 19, 20, 21, 22, 23, 24, 25, 26, 27, 28, 29, 30, 31, 32, 33, 34, 35, 36, 37, 38, 39, 40, 41, 42] (fun mm f ds W1 => ds = [] ∧ ∃ (c : Nat), f 10 = .int .i64 c ∧ mm = us.length - c ∧ c ≤ us.length ∧ Below w.heap.size w W1 ∧ Hid (∀ i (hi : i < us.length), i < c → d0 vs[a] us[i] = false)) us.length ⟨rfl, 0, rfl, rfl, Nat.zero_le _, hB, Lib.hid (fun i _ h => absurd h (by omega))⟩ ?_
    intro c2' T2' hc2 hT2
    rintro mm f ds W1 ⟨rfl, c, hf10, rfl, hc, hB1, HC⟩
    replace hc2 := hc2.out
    subst hc2
    replace hT2 := hT2.out
    subst hT2
    generalize hF : mrgF _ 0 _ _ = F
    simp only [mrg_hit, mrg_miss, mrg_nil, Nat.reduceBEq, Nat.reduceAdd] at hF
    rw [hf10] at hF
    subst hF
    by_cases hltc : c < us.length
    · have x0c : (0 : Int) ≤ (c : Int) := by omega
      have x1c : (c : Int) < (us.length : Int) := by omega
      have q0c : decide ((c : Int) < (us.length : Int)) = true := decide_eq_true x1c
      have hva := HV.out vs[a] (List.getElem_mem hlt)
      have huc := HU.out us[c] (List.getElem_mem hltc)
      obtain ⟨ax, hax, haxb, cx⟩ := (HX.out W1 hB1).int_at (k := a) (by simpa using hlt)
      obtain ⟨ay, hay, hayb, cy⟩ := (HY.out W1 hB1).int_at (k := c) (by simpa using hltc)
      rw [List.getElem_map] at cx cy
      have HNO : Hid (d0 vs[a] us[c] = false → ∀ i (hi : i < us.length), i < c + 1 → d0 vs[a] us[i] = false) := Lib.hid (fun h i hi h2 => by
        by_cases e : i = c
        · subst e; exact h
        · exact HC.out i hi (by omega))
      have HYES : Hid (d0 vs[a] us[c] = true → true = res) := Lib.hid (fun h => by rw [← HRES.out, M.any_yes (p := d0) hlt hltc h])
      generalize us[c] = y at *
      have KW1 := Lib.hid (KW.out vs[a] y hva huc)
      generalize vs[a] = x at *
      have KA1 := Lib.hid (KA.out x hva)
      have KA2 := Lib.hid (KA.out y huc)
      obtain ⟨la, hla, hlb, a0, a1, a2, a3, a4, a5⟩ := (HL.out W1 hB1).mv6 hva
      obtain ⟨la', hla', hlb', b0, b1, b2, b3, b4, b5⟩ := (HL.out W1 hB1).mv6 huc
      obtain rfl : la = la' := by rw [hla] at hla'; exact Option.some.inj hla'
      generalize d0 x y = r at *
      generalize M.stv l x = sx at *
      generalize M.stv l y = sy at *
      generalize l[x] = mi at *
      generalize l[y] = mk at *
      subst hla hax hay
      clear hla' HC
      have z0 : (0 : Int) ≤ (x : Int) := by omega
      have z1 : (x : Int) < (l.length : Int) := by omega
      have z2 : (0 : Int) ≤ (y : Int) := by omega
      have z3 : (y : Int) < (l.length : Int) := by omega
      have hsz := hB1.size
      have l1 : (ax.add a).block < W1.heap.size := by rw [add_block]; exact Nat.lt_of_lt_of_le haxb hsz
      have l2 : (ay.add c).block < W1.heap.size := by rw [add_block]; exact Nat.lt_of_lt_of_le hayb hsz
      have l3 := Nat.lt_of_lt_of_le hlb hsz
      have l4 := Nat.lt_of_lt_of_le hlb' hsz
      clear haxb hayb hlb hlb' hsz
      have k1 : Hid (∀ u : Kept W1.heap.size W1, Calls Tryd.prog 38 #[.slice (some la) l.length lc, .int .i64 sx] u.val fun e w' => e = .returned (.int .i64 (x : Nat)) ∧ Below u.val.heap.size u.val w') := Lib.hid (fun u => KA1.out u.val (after_ hB1 u.h))
      have k2 : Hid (∀ u : Kept W1.heap.size W1, Calls Tryd.prog 38 #[.slice (some la) l.length lc, .int .i64 sy] u.val fun e w' => e = .returned (.int .i64 (y : Nat)) ∧ Below u.val.heap.size u.val w') := Lib.hid (fun u => KA2.out u.val (after_ hB1 u.h))
      have k3 : Hid (∀ u : Kept W1.heap.size W1, Calls Tryd.prog 13 #[.slice PA np pc, mvv mi, mvv mk] u.val fun e w' => e = .returned (.bool r) ∧ Below u.val.heap.size u.val w') := Lib.hid (fun u => KW1.out u.val (after_ hB1 u.h))
      clear KA1 KA2 KW1
      go_wp2_with fail
      refine wp_region_kept W1.heap.size W1 (by kernel_rfl) (by kernel_rfl) (Below.refl _ _) ?_
      repeat (go_big_quiet_step (first | (go_at_call 38; first | with_reducible exact Kept.calls (Nat.le_refl _) (k1.out _) | with_reducible exact Kept.calls (Nat.le_refl _) (k2.out _)) | (go_at_call 13; with_reducible exact Kept.calls (Nat.le_refl _) (k3.out _))))
      refine wpQuiet_nil ?_
      rintro w5 ⟨⟨w5x, hb5⟩, hw5⟩
      dsimp only at hw5
      subst hw5
      clear k1 k2 k3 a0 a1 a2 a3 a4 a5 b0 b1 b2 b3 b4 b5 cx cy
      cases r with
      | true =>
        have HF := Lib.hid (HYES.out rfl)
        clear HYES HNO
        go_wp2_with fail
        go_ret
        exact ⟨by rw [← HF.out]; rfl, after_ hB1 hb5⟩
      | false =>
        have HN2 := Lib.hid (HNO.out rfl)
        clear HYES HNO
        go_wp2_with fail
        exact ⟨_, rfl, rfl, us.length - (c + 1), by omega, by trivial, c + 1, rfl, rfl, hltc, after_ hB1 hb5, HN2⟩
    · obtain rfl : c = us.length := by omega
      have q0 : decide ((us.length : Int) < (us.length : Int)) = false := decide_eq_false (by omega)
      have HA2 : Hid (∀ i (hi : i < vs.length), i < a + 1 → (us.any fun b => d0 vs[i] b) = false) := Lib.hid (fun i hi h2 => by
        by_cases e : i = a
        · subst e; exact M.any_one (p := d0 vs[i]) (fun k hk => HC.out k hk hk)
        · exact HA.out i hi (by omega))
      clear HA HC
      go_wp2_with fail
      exact ⟨_, rfl, rfl, vs.length - (a + 1), by omega, by trivial, a + 1, rfl, rfl, hlt, hB1, HA2⟩
  · obtain rfl : a = vs.length := by omega
    have q0 : decide ((vs.length : Int) < (vs.length : Int)) = false := decide_eq_false (by omega)
    have HF : Hid (false = res) := Lib.hid (by rw [← HRES.out, M.any_two (p := d0) (fun i hi => HA.out i hi hi)])
    clear HA
    go_wp2_with fail
    go_ret
    exact ⟨by rw [← HF.out]; rfl, hB⟩
end Go.Proofs.YtceobfigfmnacaaDoor
end

section
namespace Go.Proofs.YtceobfigfmnacaaDoor
open Go Go.RowKit
set_option maxRecDepth 100000
namespace M
def dnL (o : Nat → Nat) (L : Nat → Nat) (i : Nat) : List (Nat × Nat) := (List.range i).map fun j => (o j, L j)
def lacc (R : List Nat) (o L : Nat → Nat) (i k : Nat) : Nat := (dnL o L k).foldl (Dg.lstep R (o i)) 1
theorem lacc_zero (R : List Nat) (o L : Nat → Nat) (i : Nat) : lacc R o L i 0 = 1 := rfl
theorem lacc_succ (R : List Nat) (o L : Nat → Nat) (i k : Nat) : lacc R o L i (k + 1) = Dg.lstep R (o i) (lacc R o L i k) (o k, L k) := by
  unfold lacc dnL
  rw [List.range_succ, List.map_append, List.foldl_append]
  rfl
def setL (L : Nat → Nat) (i a : Nat) : Nat → Nat := fun j => if j = i then a else L j
theorem dnL_set (o L : Nat → Nat) (i a : Nat) : dnL o (setL L i a) (i + 1) = dnL o L i ++ [(o i, a)] := by
  unfold dnL
  rw [List.range_succ, List.map_append]
  congr 1
  · refine List.map_congr_left fun j hj => ?_
    unfold setL
    rw [if_neg (by have := List.mem_range.1 hj; omega)]
  · simp [setL]
theorem setL_set (L : Nat → Nat) (i a b : Nat) : setL (setL L i a) i b = setL L i b := by
  funext j; unfold setL; split <;> rfl
end M
abbrev NR (w : World) (base g n : Nat) (L : Nat → Nat) : Prop := w.ownsRow base 3 1 (.slice (some ⟨g, 0, none⟩) n n) n (flat 1 icell (Dg.fl n fun j => (L j : Int)))
theorem NR.at {w : World} {base g n : Nat} {L : Nat → Nat} (h : NR w base g n L) {k : Nat} (hk : k < n) : w.cell? ⟨g, k, none⟩ = some (.int .i64 (L k)) ∧ w.frozen? ⟨g, k, none⟩ = false := by
  have := own_at h (k := k) (j := 0) (by rw [Dg.fl_len]; exact hk) (by decide)
  rw [Nat.mul_one, Nat.add_zero] at this
  refine ⟨this.1.trans ?_, this.2⟩
  rw [Dg.fl_at]
  rfl
theorem NR.set {w : World} {base g n : Nat} {L : Nat → Nat} (h : NR w base g n L) {k : Nat} (hk : k < n) (y : Nat) : NR (w.setCell ⟨g, k, none⟩ (.int .i64 y)) base g n (M.setL L k y) := by
  have h3 := own_set (size := 1) (cell := icell) h (k := k) (by rw [Dg.fl_len]; exact hk) (j := 0) (y := (y : Int)) (u := .int .i64 y) (by decide) rfl (fun j' h1 h2 => absurd h1 (by omega))
  rw [Nat.mul_one, Nat.add_zero, Dg.fl_set] at h3
  have e : (fun j => if j = k then (y : Int) else (L j : Int)) = fun j => ((M.setL L k y j : Nat) : Int) := by funext j; unfold M.setL; split <;> rfl
  rw [e] at h3
  exact h3
theorem NR.congr {w : World} {base g n : Nat} {L L' : Nat → Nat} (h : NR w base g n L) (e : L = L') : NR w base g n L' := e ▸ h
set_option maxHeartbeats 32000000 in
theorem rDepth_ok (PA : Option Addr) (pc np : Nat) (ps : List P5) (LA : Option Addr) (lc : Nat) (l : List Mv) (w : World) (hnp : np = ps.length) (hP : Sl 5 p5cell w w.heap.size PA ps) (hL : Sl 6 mvcell w w.heap.size LA l) (hl : l.length ≤ 9223372036854775806) (hi : M.Ints ps l) :
    Calls Tryd.prog 20 #[.slice PA np pc, .slice LA l.length lc] w fun e w' => (∃ er, M.errIs ps l er ∧ ((er ≠ 0 ∧ e = .returned (.tuple #[.int .i64 0, .int .i64 er])) ∨ (er = 0 ∧ e = .returned (.tuple #[.int .i64 (Dg.depth (M.rows ps l) : Nat), .int .i64 0])))) ∧ Below w.heap.size w w' := by
  obtain ⟨ii, hii, hzi0, hzi1, hzi2⟩ := info_parts inInfo
  have Hii := Lib.hid hii; have Hzi0 := Lib.hid hzi0; have Hzi1 := Lib.hid hzi1; have Hzi2 := Lib.hid hzi2
  clear hii hzi0 hzi1 hzi2
  have kG := rGroups_ok PA pc np ps LA lc l w hnp hP hL hl hi
  have KL := Lib.hid (fun (XA YA : Option Addr) (xc yc nx ny : Nat) (vs us : List Nat) (u : World) (hu : Below w.heap.size w u) (hpl : ps.length ≤ 20000) (hok : M.mvsOk l) (hX : Sl 1 icell u u.heap.size XA (vs.map (M.stv l))) (hY : Sl 1 icell u u.heap.size YA (us.map (M.stv l))) (hnx : nx = vs.length) (hny : ny = us.length) (hvl : vs.length ≤ 512) (hul : us.length ≤ 512) (hv : ∀ x ∈ vs, x < l.length) (huu : ∀ x ∈ us, x < l.length) => rLinked_ok PA pc np ps LA lc l XA YA xc yc nx ny vs us u hnp ((hP.below hu).more hu.size) ((hL.below hu).more hu.size) hpl hok hi hX hY hnx hny hvl hul hv huu)
  clear hnp hP hi hL
  go_enter Tryd.func20, Tryd.ntmps20
  go_wp2_with fail
  refine kG.mono ?_
  rintro e w2 ⟨⟨er, her, hcase⟩, hb2⟩
  clear kG
  rcases hcase with ⟨hne, rfl⟩ | ⟨rfl, A, c, ls, rfl, hlo, hls⟩
  · have q1 : (er != 0) = true := by simpa using hne
    have HER := Lib.hid her
    have HE0 := Lib.hid hne
    clear her hne
    go_wp2_with fail
    go_ret2
    exact ⟨⟨er, HER.out, .inl ⟨HE0.out, rfl⟩⟩, hb2⟩
  · have HER := Lib.hid her
    have hok : M.mvsOk l ∧ ps.length ≤ 20000 := by
      rcases her with ⟨h1, h2, -⟩ | ⟨-, -, h⟩ | ⟨-, h⟩
      · exact ⟨h1, h2⟩
      · cases h
      · cases h
    have hR := M.rows_ok (ps := ps) hok.1.1
    have hl512 := hok.1.1
    have HRL : Hid ((M.rows ps l).length = l.length) := Lib.hid (M.rows_len ps l)
    have HOL : Hid (∀ v ∈ Dg.ord (M.rows ps l), v < l.length) := Lib.hid (fun v hv => by
      have := (Dg.mem_leads.1 ((Dg.ord_mem hR).1 hv)).1
      rwa [HRL.out] at this)
    have hol : (Dg.ord (M.rows ps l)).length ≤ 512 := by
      have h1 := (Dg.ord_perm hR).length_eq
      have h2 := Dg.leads_len (M.rows ps l)
      have h3 := HRL.out
      omega
    have HSC : Hid (∀ v, v < l.length → ∀ x ∈ Bs.els (Dg.scc (M.rows ps l) v) 0, x < l.length) := Lib.hid (fun v hv x hx => by
      have hv' : v < (M.rows ps l).length := by rw [HRL.out]; exact hv
      have := ((Dg.scc_bit hR hv' x).1 ((Bs.mem_els (Dg.scc_fit hR v)).1 hx)).1.lt hR hv'
      rwa [HRL.out] at this)
    have HD0 : Hid (Dg.rdp (M.rows ps l) (Dg.ord (M.rows ps l)) [] 0 = Dg.depth (M.rows ps l)) := Lib.hid (Dg.depth_eq hR).symm
    have hLL := hlo.ll
    have hlm : ls.length = (Dg.ord (M.rows ps l)).length := by
      have := congrArg List.length hls
      rw [List.length_map] at this
      rw [this]; unfold M.grps; rw [List.length_map]
    have HEL : Hid (∀ i (h1 : i < ls.length), ls[i].xs = (Bs.els (Dg.scc (M.rows ps l) ((Dg.ord (M.rows ps l)).getD i 0)) 0).map (M.stv l)) := Lib.hid (fun i h1 => by
      have h2 : i < (Dg.ord (M.rows ps l)).length := by omega
      have e1 : (ls.map (·.xs))[i]'(by simpa using h1) = ls[i].xs := by simp
      rw [← e1]
      simp only [hls]
      unfold M.grps
      rw [List.getElem_map, List.getD_eq_getElem?_getD, List.getElem?_eq_getElem h2]
      exact M.sts_eq l _)
    have HKL := Lib.hid (fun (i k : Nat) (h1 : i < ls.length) (h2 : k < ls.length) (u : World) (hu : Below w2.heap.size w2 u) => (show Calls Tryd.prog 40 #[.slice PA np pc, .slice LA l.length lc, .slice ls[i].A ls[i].xs.length ls[i].c, .slice ls[k].A ls[k].xs.length ls[k].c] u fun e w' => e = .returned (.bool (Dg.linked (M.rows ps l) ((Dg.ord (M.rows ps l)).getD i 0) ((Dg.ord (M.rows ps l)).getD k 0))) ∧ Below u.heap.size u w' from by
      have hLu := hLL.next hu
      have hm : ∀ i, i < ls.length → (Dg.ord (M.rows ps l)).getD i 0 < l.length := fun i h => by
        have h3 : i < (Dg.ord (M.rows ps l)).length := by omega
        rw [List.getD_eq_getElem?_getD, List.getElem?_eq_getElem h3]
        exact HOL.out _ (List.getElem_mem h3)
      have e1 := HEL.out i h1
      have e2 := HEL.out k h2
      exact KL.out _ _ _ _ _ _ _ _ u (after_ hb2 hu) hok.2 hok.1 (by rw [← e1]; exact hLu.inner _ (List.getElem_mem h1)) (by rw [← e2]; exact hLu.inner _ (List.getElem_mem h2)) (by rw [e1, List.length_map]) (by rw [e2, List.length_map]) (Bs.els_len _ _) (Bs.els_len _ _) (HSC.out _ (hm i h1)) (HSC.out _ (hm k h2))))
    have HSTEP : Hid (∀ i, i < ls.length → ∀ dn g, Dg.rdp (M.rows ps l) ((Dg.ord (M.rows ps l)).drop i) dn g = Dg.rdp (M.rows ps l) ((Dg.ord (M.rows ps l)).drop (i + 1)) (dn ++ [((Dg.ord (M.rows ps l)).getD i 0, Dg.llong (M.rows ps l) ((Dg.ord (M.rows ps l)).getD i 0) dn)]) (max g (Dg.llong (M.rows ps l) ((Dg.ord (M.rows ps l)).getD i 0) dn))) := Lib.hid (fun i h dn g => by
      have h3 : i < (Dg.ord (M.rows ps l)).length := by omega
      rw [List.getD_eq_getElem?_getD, List.getElem?_eq_getElem h3, List.drop_eq_getElem_cons h3]
      rfl)
    have HDL : Hid ((Dg.ord (M.rows ps l)).drop ls.length = []) := Lib.hid (by rw [hlm, List.drop_length])
    rw [← hlm] at hol
    clear her hok hR HSC HOL hlm hls KL hlo HEL HRL
    obtain ⟨dep, hdep⟩ : ∃ dep, Dg.depth (M.rows ps l) = dep := ⟨_, rfl⟩
    have HDP := Lib.hid hdep
    rw [hdep] at HD0
    clear hdep
    generalize Dg.ord (M.rows ps l) = od at HKL HSTEP HD0 HDL
    generalize M.rows ps l = R at HKL HSTEP HD0
    obtain ⟨m, hm⟩ : ∃ m, ls.length = m := ⟨_, rfl⟩
    have HM := Lib.hid hm
    rw [hm] at hol ⊢
    clear hm
    go_wp2_with (at_make; refine wpList_make_full _ rfl _ _ 39 rfl w2.heap.size 3 ii _ 1 Tryd.underlying39 Hii.out Hzi0.out Hzi1.out .i64 .i64 _ _ m rfl rfl rfl rfl (by rw [Hzi2.out]; omega) (by unfold maxLen; omega) (Nat.le_refl _) ?_; intro w4 hown4 hg4)
    have em := made_flat (cell := icell) (size := 1) (x0 := (0 : Int)) (by decide) (Value.int .i64 0).cells rfl m
    rw [em] at hown4
    clear em
    have nr0 : NR w4 w2.heap.size w2.heap.size m (fun _ => 0) := by
      unfold NR
      rw [show Dg.fl m (fun _ => ((0 : Nat) : Int)) = List.replicate m 0 by unfold Dg.fl; rw [List.map_const', List.length_range]; rfl]
      exact hown4
    have B4 : Below w2.heap.size w2 w4 := (Below.refl _ _).grown hg4 (Nat.le_refl _) (by simp)
    clear hown4 hg4
    refine wp_loop_mrg [9, 10, 11, 24, 25, 26, 27, 28, 29, 30, 31, 32, 33, 34, 35, 36, 37, 38, 39, 40, 41, 42, 43, 44, 45, 46, 47, 48, 49, 50, 51, 52, 53, 54, 55, 56, 57, 58, 59, 60, 61, 62, 63, 64, 65, 66, 67, 68, 69, 70, 71, 72, 73, 74] (fun mm f ds W0 => ds = [] ∧ ∃ (i : Nat) (L : Nat → Nat) (gr : Nat), f 10 = .int .i64 i ∧ f 9 = .int .i64 (gr : Nat) ∧ mm = m - i ∧ i ≤ m ∧ Below w2.heap.size w2 W0 ∧ NR W0 w2.heap.size w2.heap.size m L ∧ Hid ((∀ j, j < i → L j ≤ j + 1) ∧ Dg.rdp R (od.drop i) (M.dnL (fun j => od.getD j 0) L i) gr = dep)) m ⟨rfl, 0, fun _ => 0, 0, rfl, rfl, rfl, Nat.zero_le _, B4, nr0, Lib.hid ⟨fun j h => absurd h (by omega), HD0.out⟩⟩ ?_
    clear nr0 B4 HD0
    intro c1' T1' hc2 hT2
    rintro mm f ds W0 ⟨rfl, i, L, gr, hf10, hf9, rfl, hi, hB, hnr, HD⟩
    replace hc2 := hc2.out
    subst hc2
    replace hT2 := hT2.out
    subst hT2
    generalize hF : mrgF _ 0 _ _ = F
    simp only [mrg_hit, mrg_miss, mrg_end, Nat.reduceBEq, Nat.reduceAdd] at hF
    rw [hf10, hf9] at hF
    subst hF
    by_cases hlt : i < m
    · have x0i : (0 : Int) ≤ (i : Int) := by omega
      have x1i : (i : Int) < (m : Int) := by omega
      have q0i : decide ((i : Int) < (m : Int)) = true := decide_eq_true x1i
      obtain ⟨ci, fi⟩ := hnr.at hlt
      have nr1 := hnr.set hlt 1
      rw [show (((1 : Nat) : Int)) = 1 from rfl] at nr1
      have B1 := hB.setCell (p := ⟨w2.heap.size, i, none⟩) (Nat.le_refl _) (.int .i64 1)
      go_wp2_with fail
      clear hnr hB ci fi
      have HLB := Lib.hid HD.out.1
      have HST := Lib.hid (HSTEP.out i (by rw [HM.out]; exact hlt) (M.dnL (fun j => od.getD j 0) L i) gr)
      have HDE := Lib.hid HD.out.2
      clear HD
      have HKLi := Lib.hid (fun (k : Nat) (h2 : k < ls.length) (u : World) (hu : Below w2.heap.size w2 u) => HKL.out i k (by rw [HM.out]; exact hlt) h2 u hu)
      refine wp_loop_mrg [11, 33, 34, 35, 36, 37, 38, 39, 40, 41, 42, 43, 44, 45, 46, 47, 48, 49, 50, 51, 52, 53, 54, 55, 56, 57, 58, 59, 60, 61, 62, 63, 64, 65, 66, 67, 68] (fun mm f ds W1 => ds = [] ∧ ∃ (k : Nat), f 11 = .int .i64 k ∧ mm = i - k ∧ k ≤ i ∧ Below w2.heap.size w2 W1 ∧ NR W1 w2.heap.size w2.heap.size m (M.setL L i (M.lacc R (fun j => od.getD j 0) L i k)) ∧ M.lacc R (fun j => od.getD j 0) L i k ≤ i + 1) i ⟨rfl, 0, rfl, rfl, Nat.zero_le _, B1, nr1, by rw [M.lacc_zero]; omega⟩ ?_
      clear nr1 B1
      intro c2' T2' hc2 hT2
      rintro mm f ds W1 ⟨rfl, k, hf11, rfl, hk, hB1, hnr, hac⟩
      replace hc2 := hc2.out
      subst hc2
      replace hT2 := hT2.out
      subst hT2
      generalize hF : mrgF _ 0 _ _ = F
      simp only [mrg_hit, mrg_miss, mrg_end, Nat.reduceBEq, Nat.reduceAdd] at hF
      rw [hf11] at hF
      subst hF
      by_cases hltk : k < i
      · have x0k : (0 : Int) ≤ (k : Int) := by omega
        have x1k : (k : Int) < (i : Int) := by omega
        have q0k : decide ((k : Int) < (i : Int)) = true := decide_eq_true x1k
        have hkm : k < m := by omega
        have x2 : (k : Int) < (m : Int) := by omega
        have hLk := HLB.out k hltk
        have e1 : M.setL L i (M.lacc R (fun j => od.getD j 0) L i k) k = L k := by unfold M.setL; rw [if_neg (by omega)]
        have e2 : M.setL L i (M.lacc R (fun j => od.getD j 0) L i k) i = M.lacc R (fun j => od.getD j 0) L i k := by unfold M.setL; rw [if_pos rfl]
        obtain ⟨c1, f1⟩ := hnr.at hkm
        obtain ⟨c2, f2⟩ := hnr.at hlt
        rw [e1] at c1
        rw [e2] at c2
        clear e1 e2
        obtain ⟨la, hla, hlb, g1⟩ := (hLL.next hB1).outer.one_at (k := i) (by rw [HM.out]; exact hlt)
        obtain ⟨la', hla', hlb', g2⟩ := (hLL.next hB1).outer.one_at (k := k) (by rw [HM.out]; exact hkm)
        obtain rfl : la = la' := by rw [hla] at hla'; exact Option.some.inj hla'
        rw [show ∀ s, slcell s 0 = .slice s.A s.xs.length s.c from fun s => rfl] at g1 g2
        have HSA : Hid (∀ ac, M.setL (M.setL L i (M.lacc R (fun j => od.getD j 0) L i k)) i ac = M.setL L i ac) := Lib.hid (fun ac => M.setL_set _ _ _ _)
        have HAC := Lib.hid (M.lacc_succ R (fun j => od.getD j 0) L i k)
        have KL1 := Lib.hid (HKLi.out k (by rw [HM.out]; exact hkm))
        obtain ⟨r, hr⟩ : ∃ r, Dg.linked R (od.getD i 0) (od.getD k 0) = r := ⟨_, rfl⟩
        have hlg : w2.heap.size < W1.heap.size := (own_lt hnr).2
        have hc0 : 0 ≤ M.lacc R (fun j => od.getD j 0) L i k := Nat.zero_le _
        unfold Dg.lstep at HAC
        dsimp only at HAC
        rw [hr] at HAC KL1
        clear hr
        have HNR := Lib.hid hnr
        generalize M.lacc R (fun j => od.getD j 0) L i k = ac at *
        generalize ls[i]'(by rw [HM.out]; exact hlt) = si at *
        generalize ls[k]'(by rw [HM.out]; exact hkm) = sk at *
        obtain ⟨lk, hlk⟩ : ∃ lk, L k = lk := ⟨_, rfl⟩
        rw [hlk] at c1 hLk HAC
        have HLK := Lib.hid hlk
        clear hlk
        subst hla
        clear hla' f1 hnr
        have l1 := hlb
        have l2 := hlb'
        clear hlb hlb'
        have k1 : Hid (∀ u : Kept W1.heap.size W1, Calls Tryd.prog 40 #[.slice PA np pc, .slice LA l.length lc, .slice si.A si.xs.length si.c, .slice sk.A sk.xs.length sk.c] u.val fun e w' => e = .returned (.bool r) ∧ Below u.val.heap.size u.val w') := Lib.hid (fun u => KL1.out u.val (after_ hB1 u.h))
        clear KL1
        have z0 : (0 : Int) ≤ (lk : Int) := by omega
        have z1 : (lk : Int) + 1 ≤ 1000000 := by omega
        cases r with
        | false =>
          have HA2 : Hid (M.lacc R (fun j => od.getD j 0) L i (k + 1) = ac) := Lib.hid (by rw [HAC.out, Bool.false_and]; rfl)
          clear HAC HSA
          go_wp2_with fail
          refine wp_region_kept W1.heap.size W1 (by kernel_rfl) (by kernel_rfl) (Below.refl _ _) ?_
          repeat (go_big_quiet_step ((go_at_call 40; with_reducible exact Kept.calls (Nat.le_refl _) (k1.out _))))
          refine wpQuiet_nil ?_
          rintro w5 ⟨⟨w5x, hb5⟩, hw5⟩
          dsimp only at hw5
          subst hw5
          clear k1 c1 c2 g1 g2
          go_wp2_with fail
          exact ⟨_, rfl, rfl, i - (k + 1), by omega, by trivial, k + 1, rfl, rfl, hltk, after_ hB1 hb5, by rw [HA2.out]; exact own_below HNR.out hb5, by rw [HA2.out]; exact hac⟩
        | true =>
          by_cases hcm : ac < lk + 1
          · have q5 : decide ((ac : Int) < (lk : Int) + 1) = true := decide_eq_true (by omega)
            have HA2 : Hid (M.lacc R (fun j => od.getD j 0) L i (k + 1) = lk + 1) := Lib.hid (by rw [HAC.out, decide_eq_true hcm]; rfl)
            clear HAC hcm
            go_wp2_with fail
            refine wp_region_kept W1.heap.size W1 (by kernel_rfl) (by kernel_rfl) (Below.refl _ _) ?_
            repeat (go_big_quiet_step ((go_at_call 40; with_reducible exact Kept.calls (Nat.le_refl _) (k1.out _))))
            refine wpQuiet_nil ?_
            rintro w5 ⟨⟨w5x, hb5⟩, hw5⟩
            dsimp only at hw5
            subst hw5
            clear k1 c1 c2 g1 g2
            have hnr5 := own_below HNR.out hb5
            have B5 := after_ hB1 hb5
            obtain ⟨c6, f6⟩ := NR.at hnr5 hkm
            obtain ⟨c7, f7⟩ := NR.at hnr5 hlt
            rw [show M.setL L i ac k = lk by unfold M.setL; rw [if_neg (by omega)]; exact HLK.out] at c6
            have nr6 := NR.set hnr5 hlt (lk + 1)
            rw [HSA.out] at nr6
            have B6 := B5.setCell (p := ⟨w2.heap.size, i, none⟩) (Nat.le_refl _) (.int .i64 ((lk + 1 : Nat) : Int))
            rw [show ((lk + 1 : Nat) : Int) = (lk : Int) + 1 from rfl] at nr6 B6
            clear HSA
            go_wp2_with fail
            exact ⟨_, rfl, rfl, i - (k + 1), by omega, by trivial, k + 1, rfl, rfl, hltk, B6, by rw [HA2.out]; exact nr6, by rw [HA2.out]; omega⟩
          · have q5 : decide ((ac : Int) < (lk : Int) + 1) = false := decide_eq_false (by omega)
            have HA2 : Hid (M.lacc R (fun j => od.getD j 0) L i (k + 1) = ac) := Lib.hid (by rw [HAC.out, decide_eq_false hcm, Bool.and_false]; rfl)
            clear HAC HSA
            go_wp2_with fail
            refine wp_region_kept W1.heap.size W1 (by kernel_rfl) (by kernel_rfl) (Below.refl _ _) ?_
            repeat (go_big_quiet_step ((go_at_call 40; with_reducible exact Kept.calls (Nat.le_refl _) (k1.out _))))
            refine wpQuiet_nil ?_
            rintro w5 ⟨⟨w5x, hb5⟩, hw5⟩
            dsimp only at hw5
            subst hw5
            clear k1 c1 c2 g1 g2
            go_wp2_with fail
            exact ⟨_, rfl, rfl, i - (k + 1), by omega, by trivial, k + 1, rfl, rfl, hltk, after_ hB1 hb5, by rw [HA2.out]; exact own_below HNR.out hb5, by rw [HA2.out]; exact hac⟩
      · obtain rfl : i = k := by omega
        have q0 : decide ((i : Int) < (i : Int)) = false := decide_eq_false (by omega)
        have HLG : Hid (Dg.llong R (od.getD i 0) (M.dnL (fun j => od.getD j 0) L i) = M.lacc R (fun j => od.getD j 0) L i i) := Lib.hid rfl
        have HDN := Lib.hid (M.dnL_set (fun j => od.getD j 0) L i (M.lacc R (fun j => od.getD j 0) L i i))
        generalize M.lacc R (fun j => od.getD j 0) L i i = ac at *
        obtain ⟨c2, f2⟩ := hnr.at hlt
        rw [show M.setL L i ac i = ac by unfold M.setL; rw [if_pos rfl]] at c2
        have HF : Hid ((∀ j, j < i + 1 → M.setL L i ac j ≤ j + 1) ∧ Dg.rdp R (od.drop (i + 1)) (M.dnL (fun j => od.getD j 0) (M.setL L i ac) (i + 1)) (max gr ac) = dep) := Lib.hid ⟨fun j hj => by
          unfold M.setL
          split
          · omega
          · have := HLB.out j (by omega); omega, by rw [HDN.out, ← HDE.out, HST.out, HLG.out]⟩
        have hmx : ((max gr ac : Nat) : Int) = max (gr : Int) (ac : Int) := by omega
        have HMX := Lib.hid hmx
        clear hmx HLG HDN HST HDE HLB
        go_wp2_with fail
        exact ⟨_, rfl, rfl, m - (i + 1), by omega, by trivial, i + 1, _, max gr ac, rfl, by rw [HMX.out]; rfl, rfl, hlt, hB1, hnr, HF⟩
    · obtain rfl : m = i := by omega
      have q0 : decide ((m : Int) < (m : Int)) = false := decide_eq_false (by omega)
      have HF : Hid (gr = dep) := Lib.hid (by rw [← HD.out.2, ← HM.out, HDL.out]; rfl)
      clear HD
      go_wp2_with fail
      go_ret2
      exact ⟨⟨0, HER.out, .inr ⟨rfl, by rw [HDP.out, ← HF.out] <;> rfl⟩⟩, after_ hb2 hB⟩
end Go.Proofs.YtceobfigfmnacaaDoor
end

section
namespace Go.Proofs.YtceobfigfmnacaaDoor
open Go Go.RowKit
set_option maxRecDepth 100000
namespace M
def stN (S : List (Option Nat)) (j : Nat) : Nat := match S.getD j none with | some i => i + 1 | none => 0
theorem stN_set {S : List (Option Nat)} {v i : Nat} (hv : v < S.length) : setL (stN S) v (i + 1) = stN (S.set v (some i)) := by
  funext j
  unfold setL stN
  by_cases e : j = v
  · subst e; rw [if_pos rfl, List.getD_eq_getElem?_getD, List.getElem?_set_self hv]; rfl
  · rw [if_neg e, List.getD_eq_getElem?_getD (l := S.set v (some i)), List.getElem?_set_ne (fun h => e h.symm), ← List.getD_eq_getElem?_getD]
theorem stN_some {S : List (Option Nat)} {j : Nat} : 0 < stN S j ↔ (S.getD j none).isSome = true := by
  unfold stN; cases S.getD j none <;> simp
theorem stN_start (n : Nat) : stN (List.replicate n none) = fun _ => 0 := by
  funext j
  unfold stN
  rw [List.getD_eq_getElem?_getD, List.getElem?_replicate]
  by_cases h : j < n <;> simp [h]
theorem stN_getD {S : List (Option Nat)} {j : Nat} (h : 0 < stN S j) : stN S j = (S.getD j none).getD 0 + 1 := by
  unfold stN at *; cases hs : S.getD j none with
  | none => rw [hs] at h; exact absurd h (by simp)
  | some i => rfl
theorem any_none {S : List (Option Nat)} {j : Nat} (hj : j < S.length) (h : stN S j = 0) : S.any (fun o => o.isNone) = true := by
  rw [List.any_eq_true]
  refine ⟨S[j], List.getElem_mem hj, ?_⟩
  have := stN_some (S := S) (j := j)
  rw [h, List.getD_eq_getElem?_getD, List.getElem?_eq_getElem hj, Option.getD_some] at this
  cases hs : S[j] with
  | none => rfl
  | some i => rw [hs] at this; exact absurd (this.2 rfl) (by omega)
theorem none_any {S : List (Option Nat)} (h : ∀ j, j < S.length → stN S j ≠ 0) : S.any (fun o => o.isNone) = false := by
  rw [List.any_eq_false]
  intro o ho
  obtain ⟨j, hj, rfl⟩ := List.getElem_of_mem ho
  have := stN_some.1 (Nat.pos_of_ne_zero (h j hj))
  rw [List.getD_eq_getElem?_getD, List.getElem?_eq_getElem hj, Option.getD_some] at this
  cases hs : S[j] with
  | none => rw [hs] at this; cases this
  | some i => simp
end M
set_option maxHeartbeats 32000000 in
theorem rLegal_ok (PA : Option Addr) (pc np : Nat) (ps : List P5) (LA : Option Addr) (lc : Nat) (l : List Mv) (OA : Option Addr) (oc : Nat) (os : List SLc) (w : World) (hnp : np = ps.length) (hP : Sl 5 p5cell w w.heap.size PA ps) (hL : Sl 6 mvcell w w.heap.size LA l) (hl : l.length ≤ 9223372036854775806) (hi : M.Ints ps l) (hO : LL w OA os) (hol : os.length ≤ 1000000) (hoi : ∀ s ∈ os, s.xs.length ≤ 1000000) :
    Calls Tryd.prog 24 #[.slice PA np pc, .slice LA l.length lc, .slice OA os.length oc] w fun e w' => (∃ er, M.errIs ps l er ∧ ((er ≠ 0 ∧ e = .returned (.int .i64 er)) ∨ (er = 0 ∧ e = .returned (.int .i64 (M.legal ps l (os.map (·.xs))))))) ∧ Below w.heap.size w w' := by
  obtain ⟨ii, hii, hzi0, hzi1, hzi2⟩ := info_parts inInfo
  have Hii := Lib.hid hii; have Hzi0 := Lib.hid hzi0; have Hzi1 := Lib.hid hzi1; have Hzi2 := Lib.hid hzi2
  clear hii hzi0 hzi1 hzi2
  have kE := rError_ok PA pc np ps LA lc l w hnp hL hl
  have KW := Lib.hid (fun (hp : ps.length ≤ 20000) (i k : Nat) (h1 : i < l.length) (h2 : k < l.length) (u : World) (hu : Below w.heap.size w u) => rWaits_in PA pc np ps l w hnp hP (by omega) hi h1 h2 u hu)
  have KA := Lib.hid (fun (h2 : l.length ≤ 512) (st : Int) (u : World) (hu : Below w.heap.size w u) => rAt_ok LA lc l st u ((hL.below hu).more hu.size) (by omega))
  have HL : Hid (∀ W, Below w.heap.size w W → Sl 6 mvcell W w.heap.size LA l) := Lib.hid (fun W hb => hL.below hb)
  have HOI := Lib.hid hoi
  clear hnp hP hi hL hoi
  go_enter Tryd.func24, Tryd.ntmps24
  go_wp2_with fail
  refine kE.mono ?_
  rintro e w2 ⟨⟨er, rfl, her⟩, hb2⟩
  clear kE
  have HER := Lib.hid her
  by_cases he0 : er = 0
  case neg =>
    have q1 : (er != 0) = true := by simpa using he0
    have HE0 := Lib.hid he0
    clear her he0
    go_wp2_with fail
    go_ret
    exact ⟨⟨er, HER.out, .inl ⟨HE0.out, rfl⟩⟩, hb2⟩
  case pos =>
    subst he0
    have hok : M.mvsOk l ∧ ps.length ≤ 20000 := by
      rcases her with ⟨h1, h2, -⟩ | ⟨-, -, h⟩ | ⟨-, h⟩
      · exact ⟨h1, h2⟩
      · cases h
      · cases h
    have hl512 := hok.1.1
    have KW2 := Lib.hid (KW.out hok.2)
    have KA2 := Lib.hid (KA.out hl512)
    clear her hok KW KA
    go_wp2_with (at_make; refine wpList_make_full _ rfl _ _ 39 rfl w2.heap.size 3 ii _ 1 Tryd.underlying39 Hii.out Hzi0.out Hzi1.out .i64 .i64 _ _ l.length rfl rfl rfl rfl (by rw [Hzi2.out]; omega) (by unfold maxLen; omega) (Nat.le_refl _) ?_; intro w4 hown4 hg4)
    have em := made_flat (cell := icell) (size := 1) (x0 := (0 : Int)) (by decide) (Value.int .i64 0).cells rfl l.length
    rw [em] at hown4
    clear em
    have nr0 : NR w4 w2.heap.size w2.heap.size l.length (M.stN (List.replicate l.length none)) := by
      rw [M.stN_start]
      unfold NR
      rw [show Dg.fl l.length (fun _ => ((0 : Nat) : Int)) = List.replicate l.length 0 by unfold Dg.fl; rw [List.map_const', List.length_range]; rfl]
      exact hown4
    have B4 : Below w2.heap.size w2 w4 := (Below.refl _ _).grown hg4 (Nat.le_refl _) (by simp)
    clear hown4 hg4
    refine wp_loop_mrg [9, 10, 11, 24, 25, 26, 27, 28, 29, 30, 31, 32, 33, 34, 35, 36, 37, 38, 39, 40, 41, 42, 43, 44, 45, 46, 47, 48, 49, 50, 51, 52, 53, 54, 55, 56, 57, 58, 59, 60, 61] (fun mm f ds W0 => ds = [] ∧ ∃ (i : Nat) (S : List (Option Nat)), f 9 = .int .i64 i ∧ mm = os.length - i ∧ i ≤ os.length ∧ Below w2.heap.size w2 W0 ∧ NR W0 w2.heap.size w2.heap.size l.length (M.stN S) ∧ Hid (S.length = l.length ∧ M.place l S (M.flatO i ((os.map (·.xs)).drop i)) = M.setOf l (os.map (·.xs)))) os.length ⟨rfl, 0, List.replicate l.length none, rfl, rfl, Nat.zero_le _, B4, nr0, Lib.hid ⟨List.length_replicate, rfl⟩⟩ ?_
    clear nr0 B4
    intro c1' T1' hc2 hT2
    rintro mm f ds W0 ⟨rfl, i, S, hf9, rfl, hi, hB, hnr, HS⟩
    replace hc2 := hc2.out
    subst hc2
    replace hT2 := hT2.out
    subst hT2
    generalize hF : mrgF _ 0 _ _ = F
    simp only [mrg_hit, mrg_miss, mrg_end, Nat.reduceBEq, Nat.reduceAdd] at hF
    rw [hf9] at hF
    subst hF
    by_cases hlt : i < os.length
    · have x0i : (0 : Int) ≤ (i : Int) := by omega
      have x1i : (i : Int) < (os.length : Int) := by omega
      have q0i : decide ((i : Int) < (os.length : Int)) = true := decide_eq_true x1i
      have HOU : Hid (∀ W, Below w2.heap.size w2 W → ∃ la, OA = some la ∧ (la.add i).block < W.heap.size ∧ W.cell? (la.add i) = some (slcell os[i] 0)) := Lib.hid (fun W hb => (hO.next (after_ hb2 hb)).outer.one_at hlt)
      have HIN : Hid (∀ W, Below w2.heap.size w2 W → Sl 1 icell W W.heap.size os[i].A os[i].xs) := Lib.hid (fun W hb => (hO.next (after_ hb2 hb)).inner _ (List.getElem_mem hlt))
      have HFD : Hid (M.flatO i ((os.map (·.xs)).drop i) = os[i].xs.map (fun st => (i, st)) ++ M.flatO (i + 1) ((os.map (·.xs)).drop (i + 1))) := Lib.hid (by rw [M.flatO_drop (by simpa using hlt), List.getElem_map])
      have hsl := HOI.out os[i] (List.getElem_mem hlt)
      generalize os[i] = s at *
      have HS0 : Hid (S.length = l.length ∧ M.place l S ((s.xs.map (fun st => (i, st))).drop 0 ++ M.flatO (i + 1) ((os.map (·.xs)).drop (i + 1))) = M.setOf l (os.map (·.xs))) := Lib.hid ⟨HS.out.1, by rw [List.drop_zero, ← HFD.out]; exact HS.out.2⟩
      clear HS HFD
      go_wp2_with fail
      refine wp_loop_mrg [10, 11, 30, 31, 32, 33, 34, 35, 36, 37, 38, 39, 40, 41, 42, 43, 44, 45, 46, 47, 48, 49, 50, 51, 52, 53, 54, 55, 56, 57, 58, 59, 60, 61] (fun mm f ds W1 => ds = [] ∧ ∃ (j : Nat) (S : List (Option Nat)), f 10 = .int .i64 j ∧ mm = s.xs.length - j ∧ j ≤ s.xs.length ∧ Below w2.heap.size w2 W1 ∧ NR W1 w2.heap.size w2.heap.size l.length (M.stN S) ∧ Hid (S.length = l.length ∧ M.place l S ((s.xs.map (fun st => (i, st))).drop j ++ M.flatO (i + 1) ((os.map (·.xs)).drop (i + 1))) = M.setOf l (os.map (·.xs)))) s.xs.length ⟨rfl, 0, S, rfl, rfl, Nat.zero_le _, hB, hnr, HS0⟩ ?_
      clear hB hnr HS0
      intro c2' T2' hc2 hT2
      rintro mm f ds W1 ⟨rfl, j, S1, hf10, rfl, hj, hB1, hnr1, HS1⟩
      replace hc2 := hc2.out
      subst hc2
      replace hT2 := hT2.out
      subst hT2
      generalize hF : mrgF _ 0 _ _ = F
      simp only [mrg_hit, mrg_miss, mrg_end, Nat.reduceBEq, Nat.reduceAdd] at hF
      rw [hf10] at hF
      subst hF
      obtain ⟨la, hla, hlb, a0⟩ := HOU.out W1 hB1
      rw [show slcell s 0 = .slice s.A s.xs.length s.c from rfl] at a0
      have HLA := Lib.hid hla
      subst hla
      by_cases hjl : j < s.xs.length
      · have x0j : (0 : Int) ≤ (j : Int) := by omega
        have x1j : (j : Int) < (s.xs.length : Int) := by omega
        have q0j : decide ((j : Int) < (s.xs.length : Int)) = true := decide_eq_true x1j
        obtain ⟨lb, hlb1, hlb2, b0⟩ := (HIN.out W1 hB1).int_at hjl
        have HMC : Hid ((s.xs.map (fun st => (i, st))).drop j = (i, s.xs[j]) :: (s.xs.map (fun st => (i, st))).drop (j + 1)) := Lib.hid (by rw [List.drop_eq_getElem_cons (by simpa using hjl), List.getElem_map])
        generalize s.xs[j] = st at *
        have HSP : Hid (M.place l S1 ((i, st) :: ((s.xs.map (fun st => (i, st))).drop (j + 1) ++ M.flatO (i + 1) ((os.map (·.xs)).drop (i + 1)))) = M.setOf l (os.map (·.xs))) := Lib.hid (by
          have h := HS1.out.2
          rw [HMC.out, List.cons_append] at h
          exact h)
        have HSL := Lib.hid HS1.out.1
        clear HS1 HMC
        have kA := KA2.out st W1 (after_ hb2 hB1)
        unfold M.idxI at kA
        obtain ⟨ix, hix⟩ : ∃ ix, M.idx l st = ix := ⟨_, rfl⟩
        have HIX := Lib.hid hix
        have HIL := Lib.hid (fun (v : Nat) (h : ix = some v) => (M.idx_some (hix.trans h)).1)
        rw [hix] at kA
        clear hix
        rw [hlb1] at a0
        have HLB := Lib.hid hlb1
        clear hlb1
        go_wp2_with fail
        refine kA.mono ?_
        rintro e w5 ⟨rfl, hb5⟩
        clear kA a0 b0
        have B5 := after_ hB1 hb5
        have nr5 := own_below hnr1 hb5
        clear hnr1
        cases ix with
        | none =>
          dsimp only
          have HF := Lib.hid (M.legal_two (ps := ps) (l := l) (order := os.map (·.xs)) (by rw [← HSP.out]; exact M.place_none HIX.out))
          have q1 : decide ((-1 : Int) < 0) = true := rfl
          go_wp2_with fail
          go_ret
          exact ⟨⟨0, HER.out, .inr ⟨rfl, by rw [HF.out] <;> rfl⟩⟩, after_ hb2 B5⟩
        | some v =>
          dsimp only
          have hv := HIL.out v rfl
          clear HIL
          have xv0 : (0 : Int) ≤ (v : Int) := by omega
          have xv1 : (v : Int) < (l.length : Int) := by omega
          have q1 : decide ((v : Int) < 0) = false := decide_eq_false (by omega)
          obtain ⟨c1, f1⟩ := NR.at nr5 hv
          have HNR := Lib.hid nr5
          obtain ⟨y, hy⟩ : ∃ y, M.stN S1 v = y := ⟨_, rfl⟩
          rw [hy] at c1
          have HY := Lib.hid hy
          clear nr5 hy
          by_cases hy0 : 0 < y
          · have q2 : decide ((0 : Int) < (y : Int)) = true := decide_eq_true (by omega)
            have q3 : decide (0 < y) = true := decide_eq_true hy0
            have HF := Lib.hid (M.legal_two (ps := ps) (l := l) (order := os.map (·.xs)) (by rw [← HSP.out]; exact M.place_twice HIX.out (M.stN_some.1 (by rw [HY.out]; exact hy0))))
            clear hy0
            go_wp2_with fail
            go_ret
            exact ⟨⟨0, HER.out, .inr ⟨rfl, by rw [HF.out] <;> rfl⟩⟩, after_ hb2 B5⟩
          · have q2 : decide ((0 : Int) < (y : Int)) = false := decide_eq_false (by omega)
            have q3 : decide (0 < y) = false := decide_eq_false hy0
            have HVS : Hid (v < S1.length) := Lib.hid (by rw [HSL.out]; exact hv)
            have HSN : Hid (S1.length = l.length ∧ M.place l (S1.set v (some i)) ((s.xs.map (fun st => (i, st))).drop (j + 1) ++ M.flatO (i + 1) ((os.map (·.xs)).drop (i + 1))) = M.setOf l (os.map (·.xs))) := Lib.hid ⟨HSL.out, by
              rw [← HSP.out]
              refine (M.place_once HIX.out ?_).symm
              cases hb : (S1.getD v none).isSome with
              | false => rfl
              | true => have := M.stN_some.2 hb; rw [HY.out] at this; exact absurd this hy0⟩
            have nr6 := NR.set HNR.out hv (i + 1)
            rw [M.stN_set HVS.out, show ((i + 1 : Nat) : Int) = (i : Int) + 1 from rfl] at nr6
            have B6 := B5.setCell (p := ⟨w2.heap.size, v, none⟩) (Nat.le_refl _) (.int .i64 ((i : Int) + 1))
            clear hy0 HSP HSL
            go_wp2_with fail
            refine ⟨rfl, s.xs.length - (j + 1), by omega, j + 1, rfl, rfl, hjl, S1.set v (some i), nr6, Lib.hid ⟨by rw [List.length_set]; exact HSN.out.1, HSN.out.2⟩⟩
      · obtain rfl : j = s.xs.length := by omega
        have q0 : decide ((s.xs.length : Int) < (s.xs.length : Int)) = false := decide_eq_false (by omega)
        have HS2 : Hid (S1.length = l.length ∧ M.place l S1 (M.flatO (i + 1) ((os.map (·.xs)).drop (i + 1))) = M.setOf l (os.map (·.xs))) := Lib.hid ⟨HS1.out.1, by
          have h := HS1.out.2
          rw [List.drop_of_length_le (by simp)] at h
          exact h⟩
        clear HS1
        go_wp2_with fail
        exact ⟨rfl, os.length - (i + 1), by omega, i + 1, rfl, rfl, hlt, S1, hnr1, HS2⟩
    · obtain rfl : i = os.length := by omega
      have q0 : decide ((os.length : Int) < (os.length : Int)) = false := decide_eq_false (by omega)
      have HST : Hid (M.setOf l (os.map (·.xs)) = some S) := Lib.hid (by
        have h := HS.out.2
        rw [List.drop_of_length_le (by simp)] at h
        rw [← h]
        rfl)
      have HSL := Lib.hid HS.out.1
      clear HS
      go_wp2_with fail
      refine wp_loop_mrg [12, 62, 63, 64, 65, 66, 67, 68, 69, 70, 71, 72] (fun mm f ds W1 => ds = [] ∧ W1 = W0 ∧ ∃ (v : Nat), f 12 = .int .i64 v ∧ mm = l.length - v ∧ v ≤ l.length ∧ Hid (∀ j, j < v → M.stN S j ≠ 0)) l.length ⟨rfl, rfl, 0, rfl, rfl, Nat.zero_le _, Lib.hid (fun j h => absurd h (by omega))⟩ ?_
      intro c3' T3' hc2 hT2
      rintro mm f ds W1 ⟨rfl, hW1, v, hf12, rfl, hv, HV⟩
      replace hc2 := hc2.out
      subst hc2
      replace hT2 := hT2.out
      subst hT2
      generalize hF : mrgF _ 0 _ _ = F
      simp only [mrg_hit, mrg_miss, mrg_end, Nat.reduceBEq, Nat.reduceAdd] at hF
      rw [hf12] at hF
      subst hF
      subst hW1
      by_cases hltv : v < l.length
      · have x0v : (0 : Int) ≤ (v : Int) := by omega
        have x1v : (v : Int) < (l.length : Int) := by omega
        have q0v : decide ((v : Int) < (l.length : Int)) = true := decide_eq_true x1v
        obtain ⟨c1, -⟩ := NR.at hnr hltv
        have HNR := Lib.hid hnr
        obtain ⟨y, hy⟩ : ∃ y, M.stN S v = y := ⟨_, rfl⟩
        rw [hy] at c1
        have HY := Lib.hid hy
        clear hnr hy
        by_cases hy0 : y = 0
        · have q2 : ((y : Int) == 0) = true := by simpa using hy0
          have HF := Lib.hid (M.legal_nine (ps := ps) HST.out (M.any_none (by rw [HSL.out]; exact hltv) (HY.out.trans hy0)))
          clear hy0
          go_wp2_with fail
          go_ret
          exact ⟨⟨0, HER.out, .inr ⟨rfl, by rw [HF.out] <;> rfl⟩⟩, after_ hb2 hB⟩
        · have q2 : ((y : Int) == 0) = false := by simpa using hy0
          have HV2 : Hid (∀ j, j < v + 1 → M.stN S j ≠ 0) := Lib.hid (fun j h => by
            by_cases e : j = v
            · subst e; rw [HY.out]; exact hy0
            · exact HV.out j (by omega))
          clear hy0 HV
          go_wp2_with fail
          exact ⟨_, rfl, rfl, l.length - (v + 1), by omega, by trivial, by trivial, v + 1, rfl, rfl, hltv, HV2⟩
      · obtain rfl : v = l.length := by omega
        have q0 : decide ((l.length : Int) < (l.length : Int)) = false := decide_eq_false (by omega)
        have HNN : Hid (S.any (fun o => o.isNone) = false) := Lib.hid (M.none_any (fun j hj => HV.out j (by rw [← HSL.out]; exact hj)))
        have HPS : Hid (∀ j, j < l.length → 0 < M.stN S j) := Lib.hid (fun j hj => Nat.pos_of_ne_zero (HV.out j hj))
        clear HV q0
        go_wp2_with fail
        refine wp_loop_mrg [13, 14, 73, 74, 75, 76, 77, 78, 79, 80, 81, 82, 83, 84, 85, 86, 87, 88, 89, 90, 91, 92, 93, 94, 95, 96, 97, 98, 99, 100, 101, 102, 103, 104, 105] (fun mm f ds W2 => ds = [] ∧ ∃ (v : Nat), f 13 = .int .i64 v ∧ mm = l.length - v ∧ v ≤ l.length ∧ Below w2.heap.size w2 W2 ∧ NR W2 w2.heap.size w2.heap.size l.length (M.stN S) ∧ Hid (∀ i k, i < v → k < l.length → M.dep0 (M.rows ps l) i k = true → ¬ M.stN S i < M.stN S k)) l.length ⟨rfl, 0, rfl, rfl, Nat.zero_le _, hB, hnr, Lib.hid (fun i k h => absurd h (by omega))⟩ ?_
        clear hB hnr
        intro c4' T4' hc2 hT2
        rintro mm f ds W2 ⟨rfl, v, hf13, rfl, hv, hB2, hnr2, HV⟩
        replace hc2 := hc2.out
        subst hc2
        replace hT2 := hT2.out
        subst hT2
        generalize hF : mrgF _ 0 _ _ = F
        simp only [mrg_hit, mrg_miss, mrg_nil, Nat.reduceBEq, Nat.reduceAdd] at hF
        rw [hf13] at hF
        subst hF
        by_cases hltv : v < l.length
        · have x0v : (0 : Int) ≤ (v : Int) := by omega
          have x1v : (v : Int) < (l.length : Int) := by omega
          have q0v : decide ((v : Int) < (l.length : Int)) = true := decide_eq_true x1v
          go_wp2_with fail
          refine wp_loop_mrg [14, 79, 80, 81, 82, 83, 84, 85, 86, 87, 88, 89, 90, 91, 92, 93, 94, 95, 96, 97, 98, 99, 100, 101, 102, 103, 104, 105] (fun mm f ds W3 => ds = [] ∧ ∃ (k : Nat), f 14 = .int .i64 k ∧ mm = l.length - k ∧ k ≤ l.length ∧ Below w2.heap.size w2 W3 ∧ NR W3 w2.heap.size w2.heap.size l.length (M.stN S) ∧ Hid (∀ k', k' < k → M.dep0 (M.rows ps l) v k' = true → ¬ M.stN S v < M.stN S k')) l.length ⟨rfl, 0, rfl, rfl, Nat.zero_le _, hB2, hnr2, Lib.hid (fun i h => absurd h (by omega))⟩ ?_
          clear hB2 hnr2
          intro c5' T5' hc2 hT2
          rintro mm f ds W3 ⟨rfl, k, hf14, rfl, hk, hB3, hnr3, HK⟩
          replace hc2 := hc2.out
          subst hc2
          replace hT2 := hT2.out
          subst hT2
          generalize hF : mrgF _ 0 _ _ = F
          simp only [mrg_hit, mrg_miss, mrg_nil, Nat.reduceBEq, Nat.reduceAdd] at hF
          rw [hf14] at hF
          subst hF
          by_cases hltk : k < l.length
          · have x0k : (0 : Int) ≤ (k : Int) := by omega
            have x1k : (k : Int) < (l.length : Int) := by omega
            have q0k : decide ((k : Int) < (l.length : Int)) = true := decide_eq_true x1k
            obtain ⟨la, hla, hlb, a0, a1, a2, a3, a4, a5⟩ := ((HL.out W3 (after_ hb2 hB3)).more (after_ hb2 hB3).size).mv6 hltv
            obtain ⟨la', hla', hlb', b0, b1, b2, b3, b4, b5⟩ := ((HL.out W3 (after_ hb2 hB3)).more (after_ hb2 hB3).size).mv6 hltk
            obtain rfl : la = la' := by rw [hla] at hla'; exact Option.some.inj hla'
            obtain ⟨c1, -⟩ := NR.at hnr3 hltv
            obtain ⟨c2, -⟩ := NR.at hnr3 hltk
            have KW1 := Lib.hid (KW2.out v k hltv hltk)
            have HYES : Hid (M.dep0 (M.rows ps l) v k = true → M.stN S v < M.stN S k → M.legal ps l (os.map (·.xs)) = 10) := Lib.hid (fun h1 h2 => M.legal_late HST.out HNN.out hltv hltk h1 (by
              have e1 := M.stN_getD (HPS.out v hltv)
              have e2 := M.stN_getD (HPS.out k hltk)
              omega))
            have HNO : Hid ((M.dep0 (M.rows ps l) v k = true → ¬ M.stN S v < M.stN S k) → ∀ k', k' < k + 1 → M.dep0 (M.rows ps l) v k' = true → ¬ M.stN S v < M.stN S k') := Lib.hid (fun h k' h2 => by
              by_cases e : k' = k
              · subst e; exact h
              · exact HK.out k' (by omega))
            clear HK
            have HNR := Lib.hid hnr3
            have hgw := (own_lt hnr3).2
            clear hnr3
            obtain ⟨r, hr⟩ : ∃ r, M.dep0 (M.rows ps l) v k = r := ⟨_, rfl⟩
            rw [hr] at KW1 HYES
            have HR := Lib.hid hr
            clear hr
            generalize l[v] = mi at *
            generalize l[k] = mk at *
            obtain ⟨y1, hy1⟩ : ∃ y, M.stN S v = y := ⟨_, rfl⟩
            obtain ⟨y2, hy2⟩ : ∃ y, M.stN S k = y := ⟨_, rfl⟩
            rw [hy1] at c1 HYES
            rw [hy2] at c2 HYES
            have HY1 := Lib.hid hy1
            have HY2 := Lib.hid hy2
            clear hy1 hy2
            have HLA := Lib.hid hla
            subst hla
            clear hla'
            have k1 : Hid (∀ u : Kept W3.heap.size W3, Calls Tryd.prog 13 #[.slice PA np pc, mvv mi, mvv mk] u.val fun e w' => e = .returned (.bool r) ∧ Below u.val.heap.size u.val w') := Lib.hid (fun u => KW1.out u.val (after_ hb2 (after_ hB3 u.h)))
            clear KW1
            cases r with
            | false =>
              have HN2 := Lib.hid (HNO.out (fun h => by rw [HR.out] at h; cases h))
              clear HNO HYES
              go_wp2_with fail
              refine wp_region_kept W3.heap.size W3 (by kernel_rfl) (by kernel_rfl) (Below.refl _ _) ?_
              repeat (go_big_quiet_step ((go_at_call 13; with_reducible exact Kept.calls (Nat.le_refl _) (k1.out _))))
              refine wpQuiet_nil ?_
              rintro w5 ⟨⟨w5x, hb5⟩, hw5⟩
              dsimp only at hw5
              subst hw5
              clear k1 c1 c2 a0 a1 a2 a3 a4 a5 b0 b1 b2 b3 b4 b5
              go_wp2_with fail
              exact ⟨_, rfl, rfl, l.length - (k + 1), by omega, by trivial, k + 1, rfl, rfl, hltk, after_ hB3 hb5, own_below HNR.out hb5, HN2⟩
            | true =>
              by_cases hyy : y1 < y2
              · have q5 : decide ((y1 : Int) < (y2 : Int)) = true := decide_eq_true (by omega)
                have q6 : decide (y1 < y2) = true := decide_eq_true hyy
                have HF := Lib.hid (HYES.out rfl hyy)
                clear HNO HYES hyy
                go_wp2_with fail
                refine wp_region_kept W3.heap.size W3 (by kernel_rfl) (by kernel_rfl) (Below.refl _ _) ?_
                repeat (go_big_quiet_step ((go_at_call 13; with_reducible exact Kept.calls (Nat.le_refl _) (k1.out _))))
                refine wpQuiet_nil ?_
                rintro w5 ⟨⟨w5x, hb5⟩, hw5⟩
                dsimp only at hw5
                subst hw5
                clear k1 c1 c2 a0 a1 a2 a3 a4 a5 b0 b1 b2 b3 b4 b5
                go_wp2_with fail
                go_ret
                exact ⟨⟨0, HER.out, .inr ⟨rfl, by rw [HF.out] <;> rfl⟩⟩, after_ hb2 (after_ hB3 hb5)⟩
              · have q5 : decide ((y1 : Int) < (y2 : Int)) = false := decide_eq_false (by omega)
                have q6 : decide (y1 < y2) = false := decide_eq_false hyy
                have HN2 := Lib.hid (HNO.out (fun _ h => hyy (by rw [HY1.out, HY2.out] at h; exact h)))
                clear HNO HYES hyy
                go_wp2_with fail
                refine wp_region_kept W3.heap.size W3 (by kernel_rfl) (by kernel_rfl) (Below.refl _ _) ?_
                repeat (go_big_quiet_step ((go_at_call 13; with_reducible exact Kept.calls (Nat.le_refl _) (k1.out _))))
                refine wpQuiet_nil ?_
                rintro w5 ⟨⟨w5x, hb5⟩, hw5⟩
                dsimp only at hw5
                subst hw5
                clear k1 c1 c2 a0 a1 a2 a3 a4 a5 b0 b1 b2 b3 b4 b5
                go_wp2_with fail
                exact ⟨_, rfl, rfl, l.length - (k + 1), by omega, by trivial, k + 1, rfl, rfl, hltk, after_ hB3 hb5, own_below HNR.out hb5, HN2⟩
          · obtain rfl : k = l.length := by omega
            have q0 : decide ((l.length : Int) < (l.length : Int)) = false := decide_eq_false (by omega)
            have HV2 : Hid (∀ i k, i < v + 1 → k < l.length → M.dep0 (M.rows ps l) i k = true → ¬ M.stN S i < M.stN S k) := Lib.hid (fun i k h => by
              by_cases e : i = v
              · subst e; exact fun h2 => HK.out k h2
              · exact HV.out i k (by omega))
            clear HV HK
            go_wp2_with fail
            exact ⟨_, rfl, rfl, l.length - (v + 1), by omega, by trivial, v + 1, rfl, rfl, hltv, hB3, hnr3, HV2⟩
        · obtain rfl : v = l.length := by omega
          have q0 : decide ((l.length : Int) < (l.length : Int)) = false := decide_eq_false (by omega)
          have HF : Hid (M.legal ps l (os.map (·.xs)) = 0) := Lib.hid (M.legal_fine HST.out HNN.out (fun v w hv hw h1 h2 => HV.out v w hv hw h1 (by
            have e1 := M.stN_getD (HPS.out v hv)
            have e2 := M.stN_getD (HPS.out w hw)
            omega)))
          clear HV
          go_wp2_with fail
          go_ret
          exact ⟨⟨0, HER.out, .inr ⟨rfl, by rw [HF.out] <;> rfl⟩⟩, after_ hb2 hB2⟩
end Go.Proofs.YtceobfigfmnacaaDoor
end

section
namespace Go.Proofs.YtceobfigfmnacaaDoor
open Go Go.RowKit
set_option maxRecDepth 100000
structure LW (w W : World) (PA LA : Option Addr) (ps : List P5) (l : List Mv) : Prop where
 bel : Below w.heap.size w W
 tab0 : Tab64 w
 p0 : Sl 5 p5cell w w.heap.size PA ps
 l0 : Sl 6 mvcell w w.heap.size LA l
 ints : M.Ints ps l
section
variable {w W W' : World} {PA LA : Option Addr} {ps : List P5} {l : List Mv}
theorem LW.next (h : LW w W PA LA ps l) (hb : Below W.heap.size W W') : LW w W' PA LA ps l := ⟨after_ h.bel hb, h.tab0, h.p0, h.l0, h.ints⟩
theorem LW.tab (h : LW w W PA LA ps l) : Tab64 W := h.tab0.kept h.bel
theorem LW.pairs (h : LW w W PA LA ps l) : Sl 5 p5cell W W.heap.size PA ps := (h.p0.below h.bel).more h.bel.size
theorem LW.moves (h : LW w W PA LA ps l) : Sl 6 mvcell W W.heap.size LA l := (h.l0.below h.bel).more h.bel.size
theorem LW.iw (h : LW w W PA LA ps l) : ∀ p ∈ ps, M.W64 p.a ∧ M.W64 p.b := fun p hp => ⟨(h.ints.p p hp).1, (h.ints.p p hp).2.1⟩
theorem LW.known (h : LW w W PA LA ps l) : Calls Tryd.prog 9 #[] W fun e w' => e = .returned (.bool true) ∧ Below W.heap.size W w' := known47_any W h.tab
end
end Go.Proofs.YtceobfigfmnacaaDoor
end

section
namespace Go.Proofs.YtceobfigfmnacaaDoor
open Go Go.RowKit
set_option maxRecDepth 100000
set_option maxHeartbeats 32000000 in
theorem dependForbids_walk (PA : Option Addr) (pc : Nat) (ps : List P5) (a b : Ch) (x y : Mv) (w : World) (ht : Tab64 w) (hP : Sl 5 p5cell w w.heap.size PA ps) (hpw : ∀ p ∈ ps, M.W64 p.c) (ha : M.W64 a.ch) (hb : M.W64 b.ch) (hx : M.W64 x.old ∧ M.W64 x.new) (hy : M.W64 y.old ∧ M.W64 y.new) :
  Calls Tryd.prog 3 #[.slice PA ps.length pc, chv a, chv b, mvv x, mvv y] w fun e w' => e = .returned (.bool true) ∧ Below w.heap.size w w' := by
 obtain ⟨V, HW, x0, x1, x2, x3, hB, -⟩ := boxes4 w (chc a) 24 (chc b) 24 (mvc x) 26 (mvc y) 26
 obtain ⟨a0, a1⟩ := x0.c2
 obtain ⟨b0, b1⟩ := x1.c2
 obtain ⟨c0, c1, c2, c3, c4, c5⟩ := x2.c6'
 obtain ⟨d0, d1, d2, d3, d4, d5⟩ := x3.c6'
 have l0 := x0.lt
 have l1 := x1.lt
 have l2 := x2.lt
 have l3 := x3.lt
 have hV := HW.out
 go_enter Tryd.func3, Tryd.ntmps3
 by_cases hl : ps.length ≤ 40
 case neg =>
  have q0 : decide ((40 : Int) < (ps.length : Int)) = true := decide_eq_true (by omega)
  go_wp2_with fail
  refine (known47_any V (ht.kept hB)).mono ?_
  rintro e w2 ⟨rfl, hb2⟩
  go_wp2_with fail
  go_ret
  exact ⟨rfl, after_ hB hb2⟩
 case pos =>
  have q0 : decide ((40 : Int) < (ps.length : Int)) = false := decide_eq_false (by omega)
  have HP := Lib.hid (fun (u : World) (hu : Below V.heap.size V u) => (hP.below (after_ hB hu)).more (after_ hB hu).size)
  obtain ⟨r1, hr1⟩ : ∃ r, M.forbd ps a b = r := ⟨_, rfl⟩
  obtain ⟨r2, hr2⟩ : ∃ r, M.waits ps x y = r := ⟨_, rfl⟩
  obtain ⟨r3, hr3⟩ : ∃ r, M.waits ps y x = r := ⟨_, rfl⟩
  have k1 : Hid (∀ u : Kept V.heap.size V, Calls Tryd.prog 10 #[.slice PA ps.length pc, chv a, chv b] u.val fun e w' => e = .returned (.bool r1) ∧ Below u.val.heap.size u.val w') := Lib.hid (fun u => by rw [← hr1]; exact forbidden_ok PA pc ps a b u.val (HP.out u.val u.h) (by omega))
  have k2 : Hid (∀ u : Kept V.heap.size V, Calls Tryd.prog 11 #[.slice PA ps.length pc, chv a, chv b] u.val fun e w' => e = .returned (.bool r1) ∧ Below u.val.heap.size u.val w') := Lib.hid (fun u => by rw [← hr1, ← M.rforbd_eq ha hb hpw]; exact rForbidden_ok PA pc ps a b u.val (HP.out u.val u.h) (by omega))
  have k3 : Hid (∀ u : Kept V.heap.size V, Calls Tryd.prog 12 #[.slice PA ps.length pc, mvv x, mvv y] u.val fun e w' => e = .returned (.bool r2) ∧ Below u.val.heap.size u.val w') := Lib.hid (fun u => by rw [← hr2]; exact waits_ok PA pc ps x y u.val (HP.out u.val u.h) (by omega))
  have k4 : Hid (∀ u : Kept V.heap.size V, Calls Tryd.prog 13 #[.slice PA ps.length pc, mvv x, mvv y] u.val fun e w' => e = .returned (.bool r2) ∧ Below u.val.heap.size u.val w') := Lib.hid (fun u => by rw [← hr2, ← M.rwaits_eq hx.2 hy.1 hpw]; exact rWaits_ok PA pc ps x y u.val (HP.out u.val u.h) (by omega))
  have k5 : Hid (∀ u : Kept V.heap.size V, Calls Tryd.prog 12 #[.slice PA ps.length pc, mvv y, mvv x] u.val fun e w' => e = .returned (.bool r3) ∧ Below u.val.heap.size u.val w') := Lib.hid (fun u => by rw [← hr3]; exact waits_ok PA pc ps y x u.val (HP.out u.val u.h) (by omega))
  have k6 : Hid (∀ u : Kept V.heap.size V, Calls Tryd.prog 13 #[.slice PA ps.length pc, mvv y, mvv x] u.val fun e w' => e = .returned (.bool r3) ∧ Below u.val.heap.size u.val w') := Lib.hid (fun u => by rw [← hr3, ← M.rwaits_eq hy.2 hx.1 hpw]; exact rWaits_ok PA pc ps y x u.val (HP.out u.val u.h) (by omega))
  have k7 : Hid (∀ u : Kept V.heap.size V, Calls Tryd.prog 9 #[] u.val fun e w' => e = .returned (.bool true) ∧ Below u.val.heap.size u.val w') := Lib.hid (fun u => known47_any u.val (ht.kept (after_ hB u.h)))
  have q1 : (r1 == r1) = true := by cases r1 <;> rfl
  have q2 : (r2 == r2) = true := by cases r2 <;> rfl
  have q3 : (r3 == r3) = true := by cases r3 <;> rfl
  clear hr1 hr2 hr3 hx hy ha hb hpw HP hP
  go_wp2_with fail
  clear hV
  refine wp_region_kept V.heap.size V (by kernel_rfl) (by kernel_rfl) (Below.refl _ _) ?_
  repeat (go_big_quiet_step (first | (go_at_call 10; with_reducible exact Kept.calls (Nat.le_refl _) (k1.out _)) | (go_at_call 11; with_reducible exact Kept.calls (Nat.le_refl _) (k2.out _)) | (go_at_call 12; first | with_reducible exact Kept.calls (Nat.le_refl _) (k3.out _) | with_reducible exact Kept.calls (Nat.le_refl _) (k5.out _)) | (go_at_call 13; first | with_reducible exact Kept.calls (Nat.le_refl _) (k4.out _) | with_reducible exact Kept.calls (Nat.le_refl _) (k6.out _)) | (go_at_call 9; with_reducible exact Kept.calls (Nat.le_refl _) (k7.out _))))
  refine wpQuiet_nil ?_
  rintro w5 ⟨⟨w5x, hb5⟩, hw5⟩
  dsimp only at hw5
  subst hw5
  go_wp2_with fail
  go_ret
  exact ⟨rfl, after_ hB hb5⟩
end Go.Proofs.YtceobfigfmnacaaDoor
end

section
namespace Go.Proofs.YtceobfigfmnacaaDoor
open Go Go.RowKit
set_option maxRecDepth 100000
namespace M
theorem err_ok {ps : List P5} {l : List Mv} {a : Int} (h : errIs ps l a) (hp : ps.length ≤ 20000) (hok : mvsOk l) : a = 0 := by
  rcases h with ⟨-, -, h⟩ | ⟨-, h2, -⟩ | ⟨h1, -⟩
  · exact h
  · omega
  · exact absurd hok h1
theorem err_no {ps : List P5} {l : List Mv} {a : Int} (h : errIs ps l a) (hno : ¬ mvsOk l) : a = 2 := by
  rcases h with ⟨h1, -⟩ | ⟨h1, -⟩ | ⟨-, h⟩
  · exact absurd h1 hno
  · exact absurd h1 hno
  · exact h
theorem err_full {ps : List P5} {l : List Mv} {a : Int} (h : errIs ps l a) (hp : 20000 < ps.length) (hok : mvsOk l) : a = 7 := by
  rcases h with ⟨-, h2, -⟩ | ⟨-, -, h⟩ | ⟨h1, -⟩
  · omega
  · exact h
  · exact absurd hok h1
theorem grps_len {ps : List P5} {l : List Mv} (h : mvsOk l) : (grps ps l).length ≤ 512 ∧ ∀ s ∈ grps ps l, s.length ≤ 512 := by
  have hR := rows_ok (ps := ps) h.1
  constructor
  · have h1 := (Dg.ord_perm hR).length_eq
    have h2 := Dg.leads_len (rows ps l)
    have h3 := rows_len ps l
    have h4 := h.1
    unfold grps
    rw [List.length_map]
    omega
  · intro s hs
    unfold grps at hs
    obtain ⟨v, -, rfl⟩ := List.mem_map.1 hs
    rw [sts_eq, List.length_map]
    exact Bs.els_len _ _
theorem bef_len (ps : List P5) (l : List Mv) (v : Nat) : (bef ps l v).length ≤ 512 := Nat.le_trans (befv_len _ _ _) (Bs.els_len _ _)
end M
section
variable {w W : World} {PA LA : Option Addr} {ps : List P5} {l : List Mv}
theorem LW.groups (h : LW w W PA LA ps l) (pc lc : Nat) (hp : ps.length ≤ 20000) (hl : l.length ≤ 512) (hok : M.mvsOk l) : Calls Tryd.prog 15 #[.slice PA ps.length pc, .slice LA l.length lc] W fun e w' => (∃ A c ls, e = .returned (.tuple #[.slice A ls.length c, .int .i64 0]) ∧ LO w' W.heap.size (.slice A ls.length c) ls ∧ ls.map (·.xs) = M.grps ps l) ∧ Below W.heap.size W w' := by
  refine (groups_ok PA pc ps.length ps LA lc l W h.tab rfl h.pairs h.moves (by omega) h.iw).mono ?_
  rintro e w' ⟨⟨er, her, hc⟩, hb⟩
  refine ⟨?_, hb⟩
  rcases hc with ⟨h1, -⟩ | ⟨-, A, c, ls, rfl, hlo, hls⟩
  · exact absurd (M.err_ok her hp hok) h1
  · exact ⟨A, c, ls, rfl, hlo, hls⟩
theorem LW.groupsNo (h : LW w W PA LA ps l) (pc lc : Nat) (hl : l.length ≤ 512) (hno : ¬ M.mvsOk l) : Calls Tryd.prog 15 #[.slice PA ps.length pc, .slice LA l.length lc] W fun e w' => e = .returned (.tuple #[.slice none 0 0, .int .i64 2]) ∧ Below W.heap.size W w' := by
  refine (groups_ok PA pc ps.length ps LA lc l W h.tab rfl h.pairs h.moves (by omega) h.iw).mono ?_
  rintro e w' ⟨⟨er, her, hc⟩, hb⟩
  refine ⟨?_, hb⟩
  obtain rfl := M.err_no her hno
  rcases hc with ⟨-, rfl⟩ | ⟨h1, -⟩
  · rfl
  · cases h1
theorem LW.groupsFull (h : LW w W PA LA ps l) (pc lc : Nat) (hp : 20000 < ps.length) (hl : l.length ≤ 512) (hok : M.mvsOk l) : Calls Tryd.prog 15 #[.slice PA ps.length pc, .slice LA l.length lc] W fun e w' => e = .returned (.tuple #[.slice none 0 0, .int .i64 7]) ∧ Below W.heap.size W w' := by
  refine (groups_ok PA pc ps.length ps LA lc l W h.tab rfl h.pairs h.moves (by omega) h.iw).mono ?_
  rintro e w' ⟨⟨er, her, hc⟩, hb⟩
  refine ⟨?_, hb⟩
  obtain rfl := M.err_full her hp hok
  rcases hc with ⟨-, rfl⟩ | ⟨h1, -⟩
  · rfl
  · cases h1
theorem LW.before (h : LW w W PA LA ps l) (pc lc : Nat) (st : Int) (hst : M.W64 st) (hp : ps.length ≤ 20000) (hl : l.length ≤ 512) (hok : M.mvsOk l) : Calls Tryd.prog 17 #[.slice PA ps.length pc, .slice LA l.length lc, .int .i64 st] W fun e w' => ((M.idx l st = none ∧ e = .returned (.tuple #[.slice none 0 0, .int .i64 9])) ∨ ∃ v A c, M.idx l st = some v ∧ e = .returned (.tuple #[.slice A (M.bef ps l v).length c, .int .i64 0]) ∧ Sl 1 icell w' w'.heap.size A (M.bef ps l v)) ∧ Below W.heap.size W w' := by
  refine (before_ok PA pc ps.length ps LA lc l st W h.tab rfl h.pairs h.moves (by omega) h.iw hst).mono ?_
  rintro e w' ⟨⟨er, her, hc⟩, hb⟩
  refine ⟨?_, hb⟩
  rcases hc with ⟨h1, -⟩ | ⟨-, hc⟩
  · exact absurd (M.err_ok her hp hok) h1
  · exact hc
theorem LW.beforeNo (h : LW w W PA LA ps l) (pc lc : Nat) (st : Int) (hst : M.W64 st) (hl : l.length ≤ 512) (hno : ¬ M.mvsOk l) : Calls Tryd.prog 17 #[.slice PA ps.length pc, .slice LA l.length lc, .int .i64 st] W fun e w' => e = .returned (.tuple #[.slice none 0 0, .int .i64 2]) ∧ Below W.heap.size W w' := by
  refine (before_ok PA pc ps.length ps LA lc l st W h.tab rfl h.pairs h.moves (by omega) h.iw hst).mono ?_
  rintro e w' ⟨⟨er, her, hc⟩, hb⟩
  refine ⟨?_, hb⟩
  obtain rfl := M.err_no her hno
  rcases hc with ⟨-, rfl⟩ | ⟨h1, -⟩
  · rfl
  · cases h1
theorem LW.depth (h : LW w W PA LA ps l) (pc lc : Nat) (hp : ps.length ≤ 20000) (hl : l.length ≤ 512) (hok : M.mvsOk l) : Calls Tryd.prog 19 #[.slice PA ps.length pc, .slice LA l.length lc] W fun e w' => e = .returned (.tuple #[.int .i64 (Dg.depth (M.rows ps l) : Nat), .int .i64 0]) ∧ Below W.heap.size W w' := by
  refine (depth_ok PA pc ps.length ps LA lc l W h.tab rfl h.pairs h.moves (by omega) h.iw).mono ?_
  rintro e w' ⟨⟨er, her, hc⟩, hb⟩
  refine ⟨?_, hb⟩
  rcases hc with ⟨h1, -⟩ | ⟨-, rfl⟩
  · exact absurd (M.err_ok her hp hok) h1
  · rfl
theorem LW.depthNo (h : LW w W PA LA ps l) (pc lc : Nat) (hl : l.length ≤ 512) (hno : ¬ M.mvsOk l) : Calls Tryd.prog 19 #[.slice PA ps.length pc, .slice LA l.length lc] W fun e w' => e = .returned (.tuple #[.int .i64 0, .int .i64 2]) ∧ Below W.heap.size W w' := by
  refine (depth_ok PA pc ps.length ps LA lc l W h.tab rfl h.pairs h.moves (by omega) h.iw).mono ?_
  rintro e w' ⟨⟨er, her, hc⟩, hb⟩
  refine ⟨?_, hb⟩
  obtain rfl := M.err_no her hno
  rcases hc with ⟨-, rfl⟩ | ⟨h1, -⟩
  · rfl
  · cases h1
theorem LW.legal (h : LW w W PA LA ps l) (pc lc : Nat) (OA : Option Addr) (oc : Nat) (os : List SLc) (hO : LL W OA os) (hol : os.length ≤ 9223372036854775806) (hoi : ∀ s ∈ os, s.xs.length ≤ 9223372036854775806 ∧ ∀ x ∈ s.xs, M.W64 x) (hp : ps.length ≤ 20000) (hl : l.length ≤ 512) (hok : M.mvsOk l) : Calls Tryd.prog 23 #[.slice PA ps.length pc, .slice LA l.length lc, .slice OA os.length oc] W fun e w' => e = .returned (.int .i64 (M.legal ps l (os.map (·.xs)))) ∧ Below W.heap.size W w' := by
  refine (legal_ok PA pc ps.length ps LA lc l OA oc os W h.tab rfl h.pairs h.moves (by omega) h.iw hO hol hoi).mono ?_
  rintro e w' ⟨⟨er, her, hc⟩, hb⟩
  refine ⟨?_, hb⟩
  rcases hc with ⟨h1, -⟩ | ⟨-, rfl⟩
  · exact absurd (M.err_ok her hp hok) h1
  · rfl
theorem LW.legalNo (h : LW w W PA LA ps l) (pc lc : Nat) (OA : Option Addr) (oc : Nat) (os : List SLc) (hO : LL W OA os) (hol : os.length ≤ 9223372036854775806) (hoi : ∀ s ∈ os, s.xs.length ≤ 9223372036854775806 ∧ ∀ x ∈ s.xs, M.W64 x) (hl : l.length ≤ 512) (hno : ¬ M.mvsOk l) : Calls Tryd.prog 23 #[.slice PA ps.length pc, .slice LA l.length lc, .slice OA os.length oc] W fun e w' => e = .returned (.int .i64 2) ∧ Below W.heap.size W w' := by
  refine (legal_ok PA pc ps.length ps LA lc l OA oc os W h.tab rfl h.pairs h.moves (by omega) h.iw hO hol hoi).mono ?_
  rintro e w' ⟨⟨er, her, hc⟩, hb⟩
  refine ⟨?_, hb⟩
  obtain rfl := M.err_no her hno
  rcases hc with ⟨-, rfl⟩ | ⟨h1, -⟩
  · rfl
  · cases h1
theorem LW.legalFull (h : LW w W PA LA ps l) (pc lc : Nat) (OA : Option Addr) (oc : Nat) (os : List SLc) (hO : LL W OA os) (hol : os.length ≤ 9223372036854775806) (hoi : ∀ s ∈ os, s.xs.length ≤ 9223372036854775806 ∧ ∀ x ∈ s.xs, M.W64 x) (hp : 20000 < ps.length) (hl : l.length ≤ 512) (hok : M.mvsOk l) : Calls Tryd.prog 23 #[.slice PA ps.length pc, .slice LA l.length lc, .slice OA os.length oc] W fun e w' => e = .returned (.int .i64 7) ∧ Below W.heap.size W w' := by
  refine (legal_ok PA pc ps.length ps LA lc l OA oc os W h.tab rfl h.pairs h.moves (by omega) h.iw hO hol hoi).mono ?_
  rintro e w' ⟨⟨er, her, hc⟩, hb⟩
  refine ⟨?_, hb⟩
  obtain rfl := M.err_full her hp hok
  rcases hc with ⟨-, rfl⟩ | ⟨h1, -⟩
  · rfl
  · cases h1
theorem LW.rgroups (h : LW w W PA LA ps l) (pc lc : Nat) (hp : ps.length ≤ 20000) (hl : l.length ≤ 512) (hok : M.mvsOk l) : Calls Tryd.prog 16 #[.slice PA ps.length pc, .slice LA l.length lc] W fun e w' => (∃ A c ls, e = .returned (.tuple #[.slice A ls.length c, .int .i64 0]) ∧ LO w' W.heap.size (.slice A ls.length c) ls ∧ ls.map (·.xs) = M.grps ps l) ∧ Below W.heap.size W w' := by
  refine (rGroups_ok PA pc ps.length ps LA lc l W rfl h.pairs h.moves (by omega) h.ints).mono ?_
  rintro e w' ⟨⟨er, her, hc⟩, hb⟩
  refine ⟨?_, hb⟩
  rcases hc with ⟨h1, -⟩ | ⟨-, A, c, ls, rfl, hlo, hls⟩
  · exact absurd (M.err_ok her hp hok) h1
  · exact ⟨A, c, ls, rfl, hlo, hls⟩
theorem LW.rgroupsNo (h : LW w W PA LA ps l) (pc lc : Nat) (hl : l.length ≤ 512) (hno : ¬ M.mvsOk l) : Calls Tryd.prog 16 #[.slice PA ps.length pc, .slice LA l.length lc] W fun e w' => e = .returned (.tuple #[.slice none 0 0, .int .i64 2]) ∧ Below W.heap.size W w' := by
  refine (rGroups_ok PA pc ps.length ps LA lc l W rfl h.pairs h.moves (by omega) h.ints).mono ?_
  rintro e w' ⟨⟨er, her, hc⟩, hb⟩
  refine ⟨?_, hb⟩
  obtain rfl := M.err_no her hno
  rcases hc with ⟨-, rfl⟩ | ⟨h1, -⟩
  · rfl
  · cases h1
theorem LW.rgroupsFull (h : LW w W PA LA ps l) (pc lc : Nat) (hp : 20000 < ps.length) (hl : l.length ≤ 512) (hok : M.mvsOk l) : Calls Tryd.prog 16 #[.slice PA ps.length pc, .slice LA l.length lc] W fun e w' => e = .returned (.tuple #[.slice none 0 0, .int .i64 7]) ∧ Below W.heap.size W w' := by
  refine (rGroups_ok PA pc ps.length ps LA lc l W rfl h.pairs h.moves (by omega) h.ints).mono ?_
  rintro e w' ⟨⟨er, her, hc⟩, hb⟩
  refine ⟨?_, hb⟩
  obtain rfl := M.err_full her hp hok
  rcases hc with ⟨-, rfl⟩ | ⟨h1, -⟩
  · rfl
  · cases h1
theorem LW.rbefore (h : LW w W PA LA ps l) (pc lc : Nat) (st : Int) (hp : ps.length ≤ 20000) (hl : l.length ≤ 512) (hok : M.mvsOk l) : Calls Tryd.prog 18 #[.slice PA ps.length pc, .slice LA l.length lc, .int .i64 st] W fun e w' => ((M.idx l st = none ∧ e = .returned (.tuple #[.slice none 0 0, .int .i64 9])) ∨ ∃ v A c, M.idx l st = some v ∧ e = .returned (.tuple #[.slice A (M.bef ps l v).length c, .int .i64 0]) ∧ Sl 1 icell w' w'.heap.size A (M.bef ps l v)) ∧ Below W.heap.size W w' := by
  refine (rBefore_ok PA pc ps.length ps LA lc l st W rfl h.pairs h.moves (by omega) h.ints).mono ?_
  rintro e w' ⟨⟨er, her, hc⟩, hb⟩
  refine ⟨?_, hb⟩
  rcases hc with ⟨h1, -⟩ | ⟨-, hc⟩
  · exact absurd (M.err_ok her hp hok) h1
  · exact hc
theorem LW.rbeforeNo (h : LW w W PA LA ps l) (pc lc : Nat) (st : Int) (hl : l.length ≤ 512) (hno : ¬ M.mvsOk l) : Calls Tryd.prog 18 #[.slice PA ps.length pc, .slice LA l.length lc, .int .i64 st] W fun e w' => e = .returned (.tuple #[.slice none 0 0, .int .i64 2]) ∧ Below W.heap.size W w' := by
  refine (rBefore_ok PA pc ps.length ps LA lc l st W rfl h.pairs h.moves (by omega) h.ints).mono ?_
  rintro e w' ⟨⟨er, her, hc⟩, hb⟩
  refine ⟨?_, hb⟩
  obtain rfl := M.err_no her hno
  rcases hc with ⟨-, rfl⟩ | ⟨h1, -⟩
  · rfl
  · cases h1
theorem LW.rdepth (h : LW w W PA LA ps l) (pc lc : Nat) (hp : ps.length ≤ 20000) (hl : l.length ≤ 512) (hok : M.mvsOk l) : Calls Tryd.prog 20 #[.slice PA ps.length pc, .slice LA l.length lc] W fun e w' => e = .returned (.tuple #[.int .i64 (Dg.depth (M.rows ps l) : Nat), .int .i64 0]) ∧ Below W.heap.size W w' := by
  refine (rDepth_ok PA pc ps.length ps LA lc l W rfl h.pairs h.moves (by omega) h.ints).mono ?_
  rintro e w' ⟨⟨er, her, hc⟩, hb⟩
  refine ⟨?_, hb⟩
  rcases hc with ⟨h1, -⟩ | ⟨-, rfl⟩
  · exact absurd (M.err_ok her hp hok) h1
  · rfl
theorem LW.rdepthNo (h : LW w W PA LA ps l) (pc lc : Nat) (hl : l.length ≤ 512) (hno : ¬ M.mvsOk l) : Calls Tryd.prog 20 #[.slice PA ps.length pc, .slice LA l.length lc] W fun e w' => e = .returned (.tuple #[.int .i64 0, .int .i64 2]) ∧ Below W.heap.size W w' := by
  refine (rDepth_ok PA pc ps.length ps LA lc l W rfl h.pairs h.moves (by omega) h.ints).mono ?_
  rintro e w' ⟨⟨er, her, hc⟩, hb⟩
  refine ⟨?_, hb⟩
  obtain rfl := M.err_no her hno
  rcases hc with ⟨-, rfl⟩ | ⟨h1, -⟩
  · rfl
  · cases h1
theorem LW.rlegal (h : LW w W PA LA ps l) (pc lc : Nat) (OA : Option Addr) (oc : Nat) (os : List SLc) (hO : LL W OA os) (hol : os.length ≤ 1000000) (hoi : ∀ s ∈ os, s.xs.length ≤ 1000000) (hp : ps.length ≤ 20000) (hl : l.length ≤ 512) (hok : M.mvsOk l) : Calls Tryd.prog 24 #[.slice PA ps.length pc, .slice LA l.length lc, .slice OA os.length oc] W fun e w' => e = .returned (.int .i64 (M.legal ps l (os.map (·.xs)))) ∧ Below W.heap.size W w' := by
  refine (rLegal_ok PA pc ps.length ps LA lc l OA oc os W rfl h.pairs h.moves (by omega) h.ints hO hol hoi).mono ?_
  rintro e w' ⟨⟨er, her, hc⟩, hb⟩
  refine ⟨?_, hb⟩
  rcases hc with ⟨h1, -⟩ | ⟨-, rfl⟩
  · exact absurd (M.err_ok her hp hok) h1
  · rfl
theorem LW.rlegalNo (h : LW w W PA LA ps l) (pc lc : Nat) (OA : Option Addr) (oc : Nat) (os : List SLc) (hO : LL W OA os) (hol : os.length ≤ 1000000) (hoi : ∀ s ∈ os, s.xs.length ≤ 1000000) (hl : l.length ≤ 512) (hno : ¬ M.mvsOk l) : Calls Tryd.prog 24 #[.slice PA ps.length pc, .slice LA l.length lc, .slice OA os.length oc] W fun e w' => e = .returned (.int .i64 2) ∧ Below W.heap.size W w' := by
  refine (rLegal_ok PA pc ps.length ps LA lc l OA oc os W rfl h.pairs h.moves (by omega) h.ints hO hol hoi).mono ?_
  rintro e w' ⟨⟨er, her, hc⟩, hb⟩
  refine ⟨?_, hb⟩
  obtain rfl := M.err_no her hno
  rcases hc with ⟨-, rfl⟩ | ⟨h1, -⟩
  · rfl
  · cases h1
theorem LW.rlegalFull (h : LW w W PA LA ps l) (pc lc : Nat) (OA : Option Addr) (oc : Nat) (os : List SLc) (hO : LL W OA os) (hol : os.length ≤ 1000000) (hoi : ∀ s ∈ os, s.xs.length ≤ 1000000) (hp : 20000 < ps.length) (hl : l.length ≤ 512) (hok : M.mvsOk l) : Calls Tryd.prog 24 #[.slice PA ps.length pc, .slice LA l.length lc, .slice OA os.length oc] W fun e w' => e = .returned (.int .i64 7) ∧ Below W.heap.size W w' := by
  refine (rLegal_ok PA pc ps.length ps LA lc l OA oc os W rfl h.pairs h.moves (by omega) h.ints hO hol hoi).mono ?_
  rintro e w' ⟨⟨er, her, hc⟩, hb⟩
  refine ⟨?_, hb⟩
  obtain rfl := M.err_full her hp hok
  rcases hc with ⟨-, rfl⟩ | ⟨h1, -⟩
  · rfl
  · cases h1
end
end Go.Proofs.YtceobfigfmnacaaDoor
end

section
namespace Go.Proofs.YtceobfigfmnacaaDoor
open Go Go.RowKit
set_option maxRecDepth 100000
set_option maxHeartbeats 32000000 in
theorem dependGroups_walk (PA : Option Addr) (pc : Nat) (ps : List P5) (LA : Option Addr) (lc : Nat) (l : List Mv) (st : Int) (w : World) (ht : Tab64 w) (hP : Sl 5 p5cell w w.heap.size PA ps) (hL : Sl 6 mvcell w w.heap.size LA l) (hi : M.Ints ps l) (hst : M.W64 st) :
    Calls Tryd.prog 4 #[.slice PA ps.length pc, .slice LA l.length lc, .int .i64 st] w fun e w' => e = .returned (.bool true) ∧ Below w.heap.size w w' := by
  have lw : LW w w PA LA ps l := ⟨Below.refl _ _, ht, hP, hL, hi⟩
  clear ht hP hL hi
  obtain ⟨f1, hf1⟩ : ∃ f, decide (ps.length ≤ 40) = f := ⟨_, rfl⟩
  obtain ⟨f2, hf2⟩ : ∃ f, decide (l.length ≤ 9) = f := ⟨_, rfl⟩
  have kF := few_any PA pc ps.length LA lc l.length w
  rw [hf1, hf2] at kF
  go_enter Tryd.func4, Tryd.ntmps4
  go_wp2_with fail
  refine kF.mono ?_
  rintro e w2 ⟨rfl, rfl⟩
  clear kF
  by_cases hfw : (f1 && f2) = true
  case neg =>
    rw [Bool.not_eq_true] at hfw
    rw [hfw]
    go_wp2_with fail
    refine lw.known.mono ?_
    rintro e x99 ⟨rfl, hb9⟩
    go_wp2_with fail
    go_ret
    exact ⟨rfl, after_ lw.bel hb9⟩
  case pos =>
    rw [hfw]
    rw [Bool.and_eq_true] at hfw
    obtain ⟨rfl, rfl⟩ := hfw
    have hp := of_decide_eq_true hf1
    have hl := of_decide_eq_true hf2
    clear hf1 hf2
    by_cases hok : M.mvsOk l
    case neg =>
      go_wp2_with fail
      refine (lw.groupsNo pc lc (by omega) hok).mono ?_
      rintro e x1 ⟨rfl, hbx⟩
      replace lw := lw.next hbx
      clear hbx
      go_wp2_with fail
      refine (lw.rgroupsNo pc lc (by omega) hok).mono ?_
      rintro e x2 ⟨rfl, hbx⟩
      replace lw := lw.next hbx
      clear hbx
      go_wp2_with fail
      refine (lw.beforeNo pc lc st hst (by omega) hok).mono ?_
      rintro e x3 ⟨rfl, hbx⟩
      replace lw := lw.next hbx
      clear hbx
      go_wp2_with fail
      refine (lw.rbeforeNo pc lc st (by omega) hok).mono ?_
      rintro e x4 ⟨rfl, hbx⟩
      replace lw := lw.next hbx
      clear hbx
      go_wp2_with fail
      refine (lw.depthNo pc lc (by omega) hok).mono ?_
      rintro e x5 ⟨rfl, hbx⟩
      replace lw := lw.next hbx
      clear hbx
      go_wp2_with fail
      refine (lw.rdepthNo pc lc (by omega) hok).mono ?_
      rintro e x6 ⟨rfl, hbx⟩
      replace lw := lw.next hbx
      clear hbx
      go_wp2_with fail
      refine (rSameLists_any none none 0 0 [] [] _ ⟨Sl.nil_, fun s h => absurd h (by simp)⟩ ⟨Sl.nil_, fun s h => absurd h (by simp)⟩ (by simp) (fun s h => absurd h (by simp))).mono ?_
      rintro e x7 ⟨rfl, hbx⟩
      replace lw := lw.next hbx
      clear hbx
      rw [show decide (List.map (fun (x : SLc) => x.xs) [] = List.map (fun (x : SLc) => x.xs) []) = true from rfl]
      go_wp2_with fail
      refine (rSame_any none none 0 0 [] [] _ Sl.nil_ Sl.nil_ (by simp)).mono ?_
      rintro e x8 ⟨rfl, hbx⟩
      replace lw := lw.next hbx
      clear hbx
      rw [show decide (([] : List Int) = []) = true from rfl]
      go_wp2_with fail
      refine lw.known.mono ?_
      rintro e x99 ⟨rfl, hb9⟩
      go_wp2_with fail
      go_ret
      exact ⟨rfl, after_ lw.bel hb9⟩
    case pos =>
      have hgl := M.grps_len (ps := ps) hok
      go_wp2_with fail
      refine (lw.groups pc lc (by omega) (by omega) hok).mono ?_
      rintro e x1 ⟨⟨GA, gc, gs, rfl, g0, hgs⟩, hbx⟩
      replace lw := lw.next hbx
      clear hbx
      have g1 := g0.ll
      clear g0
      go_wp2_with fail
      refine (lw.rgroups pc lc (by omega) (by omega) hok).mono ?_
      rintro e x2 ⟨⟨HA, hc, hs, rfl, h0, hhs⟩, hbx⟩
      replace lw := lw.next hbx
      replace g1 := g1.next hbx
      clear hbx
      have h1 := h0.ll
      clear h0
      have hl1 : gs.length ≤ 1000000 := by
        have := congrArg List.length hgs
        rw [List.length_map] at this
        omega
      have hl2 : ∀ s ∈ gs, s.xs.length ≤ 1000000 := fun s hm => by
        have h2 : s.xs ∈ M.grps ps l := by rw [← hgs]; exact List.mem_map.2 ⟨s, hm, rfl⟩
        have := hgl.2 _ h2
        omega
      have KS := Lib.hid (fun (W : World) (a : LL W GA gs) (b : LL W HA hs) => rSameLists_any GA HA gc hc gs hs W a b hl1 hl2)
      rw [hgs, hhs, decide_eq_true rfl] at KS
      clear hgs hhs hgl hl1 hl2
      go_wp2_with fail
      refine (lw.before pc lc st hst (by omega) (by omega) hok).mono ?_
      rintro e x3 ⟨hcb, hbx⟩
      replace lw := lw.next hbx
      replace g1 := g1.next hbx
      replace h1 := h1.next hbx
      clear hbx
      rcases hcb with ⟨hn, rfl⟩ | ⟨v, BA, bc, hv, rfl, hb1⟩
      · go_wp2_with fail
        refine (lw.rbefore pc lc st (by omega) (by omega) hok).mono ?_
        rintro e x4 ⟨hcb, hbx⟩
        replace lw := lw.next hbx
        replace g1 := g1.next hbx
        replace h1 := h1.next hbx
        clear hbx
        obtain rfl : e = .returned (.tuple #[.slice none 0 0, .int .i64 9]) := by
          rcases hcb with ⟨-, rfl⟩ | ⟨v, BA, bc, hv, -⟩
          · rfl
          · rw [hn] at hv; cases hv
        clear hcb
        go_wp2_with fail
        refine (lw.depth pc lc (by omega) (by omega) hok).mono ?_
        rintro e x5 ⟨rfl, hbx⟩
        replace lw := lw.next hbx
        replace g1 := g1.next hbx
        replace h1 := h1.next hbx
        clear hbx
        go_wp2_with fail
        refine (lw.rdepth pc lc (by omega) (by omega) hok).mono ?_
        rintro e x6 ⟨rfl, hbx⟩
        replace lw := lw.next hbx
        replace g1 := g1.next hbx
        replace h1 := h1.next hbx
        clear hbx
        generalize Dg.depth (M.rows ps l) = dp
        have qd : ((dp : Int) == (dp : Int)) = true := by simp
        go_wp2_with fail
        refine (KS.out _ g1 h1).mono ?_
        rintro e x7 ⟨rfl, hbx⟩
        replace lw := lw.next hbx
        replace g1 := g1.next hbx
        replace h1 := h1.next hbx
        clear hbx
        go_wp2_with fail
        refine (rSame_any none none 0 0 [] [] _ Sl.nil_ Sl.nil_ (by simp)).mono ?_
        rintro e x8 ⟨rfl, hbx⟩
        replace lw := lw.next hbx
        replace g1 := g1.next hbx
        replace h1 := h1.next hbx
        clear hbx
        rw [show decide (([] : List Int) = []) = true from rfl]
        go_wp2_with fail
        refine lw.known.mono ?_
        rintro e x99 ⟨rfl, hb9⟩
        go_wp2_with fail
        go_ret
        exact ⟨rfl, after_ lw.bel hb9⟩
      · go_wp2_with fail
        refine (lw.rbefore pc lc st (by omega) (by omega) hok).mono ?_
        rintro e x4 ⟨hcb, hbx⟩
        replace lw := lw.next hbx
        replace g1 := g1.next hbx
        replace h1 := h1.next hbx
        replace hb1 := (hb1.below hbx).more hbx.size
        clear hbx
        obtain ⟨CA, cc, rfl, hc1⟩ : ∃ A c, e = .returned (.tuple #[.slice A (M.bef ps l v).length c, .int .i64 0]) ∧ Sl 1 icell x4 x4.heap.size A (M.bef ps l v) := by
          rcases hcb with ⟨hn, -⟩ | ⟨v', BA', bc', hv', he, hS⟩
          · rw [hn] at hv; cases hv
          · rw [hv] at hv'; obtain rfl := Option.some.inj hv'; exact ⟨_, _, he, hS⟩
        clear hcb hv
        have HBL := Lib.hid (M.bef_len ps l v)
        generalize M.bef ps l v = bl at *
        go_wp2_with fail
        refine (lw.depth pc lc (by omega) (by omega) hok).mono ?_
        rintro e x5 ⟨rfl, hbx⟩
        replace lw := lw.next hbx
        replace g1 := g1.next hbx
        replace h1 := h1.next hbx
        replace hb1 := (hb1.below hbx).more hbx.size
        replace hc1 := (hc1.below hbx).more hbx.size
        clear hbx
        go_wp2_with fail
        refine (lw.rdepth pc lc (by omega) (by omega) hok).mono ?_
        rintro e x6 ⟨rfl, hbx⟩
        replace lw := lw.next hbx
        replace g1 := g1.next hbx
        replace h1 := h1.next hbx
        replace hb1 := (hb1.below hbx).more hbx.size
        replace hc1 := (hc1.below hbx).more hbx.size
        clear hbx
        generalize Dg.depth (M.rows ps l) = dp
        have qd : ((dp : Int) == (dp : Int)) = true := by simp
        go_wp2_with fail
        refine (KS.out _ g1 h1).mono ?_
        rintro e x7 ⟨rfl, hbx⟩
        replace lw := lw.next hbx
        replace g1 := g1.next hbx
        replace h1 := h1.next hbx
        replace hb1 := (hb1.below hbx).more hbx.size
        replace hc1 := (hc1.below hbx).more hbx.size
        clear hbx
        go_wp2_with fail
        refine (rSame_any BA CA bc cc bl bl _ hb1 hc1 (by have := HBL.out; omega)).mono ?_
        rintro e x8 ⟨rfl, hbx⟩
        replace lw := lw.next hbx
        replace g1 := g1.next hbx
        replace h1 := h1.next hbx
        replace hb1 := (hb1.below hbx).more hbx.size
        replace hc1 := (hc1.below hbx).more hbx.size
        clear hbx
        rw [decide_eq_true (rfl : bl = bl)]
        go_wp2_with fail
        refine lw.known.mono ?_
        rintro e x99 ⟨rfl, hb9⟩
        go_wp2_with fail
        go_ret
        exact ⟨rfl, after_ lw.bel hb9⟩
end Go.Proofs.YtceobfigfmnacaaDoor
end

section
namespace Go.Proofs.YtceobfigfmnacaaDoor
open Go Go.RowKit
set_option maxRecDepth 100000
set_option maxHeartbeats 32000000 in
theorem dependLegal_walk (PA : Option Addr) (pc : Nat) (ps : List P5) (LA : Option Addr) (lc : Nat) (l : List Mv) (OA : Option Addr) (oc : Nat) (os : List SLc) (w : World) (ht : Tab64 w) (hP : Sl 5 p5cell w w.heap.size PA ps) (hL : Sl 6 mvcell w w.heap.size LA l) (hi : M.Ints ps l) (hO : LL w OA os) (hoi : ∀ s ∈ os, ∀ x ∈ s.xs, M.W64 x) :
    Calls Tryd.prog 5 #[.slice PA ps.length pc, .slice LA l.length lc, .slice OA os.length oc] w fun e w' => e = .returned (.bool true) ∧ Below w.heap.size w w' := by
  have lw : LW w w PA LA ps l := ⟨Below.refl _ _, ht, hP, hL, hi⟩
  clear ht hP hL hi
  obtain ⟨f1, hf1⟩ : ∃ f, decide (ps.length ≤ 40) = f := ⟨_, rfl⟩
  obtain ⟨f2, hf2⟩ : ∃ f, decide (l.length ≤ 9) = f := ⟨_, rfl⟩
  have kF := few_any PA pc ps.length LA lc l.length w
  rw [hf1, hf2] at kF
  have HOI := Lib.hid hoi
  clear hoi
  go_enter Tryd.func5, Tryd.ntmps5
  go_wp2_with fail
  refine kF.mono ?_
  rintro e w2 ⟨rfl, rfl⟩
  clear kF
  by_cases hfw : (f1 && f2) = true
  case neg =>
    rw [Bool.not_eq_true] at hfw
    rw [hfw]
    go_wp2_with fail
    refine lw.known.mono ?_
    rintro e x99 ⟨rfl, hb9⟩
    go_wp2_with fail
    go_ret
    exact ⟨rfl, after_ lw.bel hb9⟩
  case pos =>
    rw [hfw]
    rw [Bool.and_eq_true] at hfw
    obtain ⟨rfl, rfl⟩ := hfw
    have hp := of_decide_eq_true hf1
    have hl := of_decide_eq_true hf2
    clear hf1 hf2
    by_cases hon : os.length ≤ 12
    case neg =>
      have q0 : decide ((12 : Int) < (os.length : Int)) = true := decide_eq_true (by omega)
      go_wp2_with fail
      refine lw.known.mono ?_
      rintro e x99 ⟨rfl, hb9⟩
      go_wp2_with fail
      go_ret
      exact ⟨rfl, after_ lw.bel hb9⟩
    case pos =>
      have q0 : decide ((12 : Int) < (os.length : Int)) = false := decide_eq_false (by omega)
      go_wp2_with fail
      clear q0
      refine wp_loop_mrg [7, 18, 19, 20, 21, 22, 23, 24, 25, 26, 27, 28, 29, 30] (fun mm f ds W0 => ds = [] ∧ W0 = w ∧ ∃ (i : Nat), f 7 = .int .i64 i ∧ mm = os.length - i ∧ i ≤ os.length ∧ Hid (∀ j (hj : j < os.length), j < i → os[j].xs.length ≤ 12)) os.length ⟨rfl, rfl, 0, rfl, rfl, Nat.zero_le _, Lib.hid (fun j _ h => absurd h (by omega))⟩ ?_
      intro c1' T1' hc2 hT2
      rintro mm f ds W0 ⟨rfl, hW0, i, hf7, rfl, hi, HI⟩
      replace hc2 := hc2.out
      subst hc2
      replace hT2 := hT2.out
      subst hT2
      generalize hF : mrgF _ 0 _ _ = F
      simp only [mrg_hit, mrg_miss, mrg_end, Nat.reduceBEq, Nat.reduceAdd] at hF
      rw [hf7] at hF
      subst hF
      subst hW0
      by_cases hlt : i < os.length
      · have x0 : (0 : Int) ≤ (i : Int) := by omega
        have x1 : (i : Int) < (os.length : Int) := by omega
        have q0 : decide ((i : Int) < (os.length : Int)) = true := decide_eq_true x1
        obtain ⟨la, hla, hlb, a0⟩ := hO.outer.one_at hlt
        rw [show slcell os[i] 0 = .slice os[i].A os[i].xs.length os[i].c from rfl] at a0
        have HI2 : Hid (os[i].xs.length ≤ 12 → ∀ j (hj : j < os.length), j < i + 1 → os[j].xs.length ≤ 12) := Lib.hid (fun h j hj h2 => by
          by_cases e : j = i
          · subst e; exact h
          · exact HI.out j hj (by omega))
        clear HI
        generalize os[i] = s at *
        have HLA := Lib.hid hla
        subst hla
        by_cases h12 : s.xs.length ≤ 12
        · have q1 : decide ((12 : Int) < (s.xs.length : Int)) = false := decide_eq_false (by omega)
          have HI3 := Lib.hid (HI2.out h12)
          clear HI2 h12
          go_wp2_with fail
          exact ⟨rfl, os.length - (i + 1), by omega, i + 1, rfl, rfl, hlt, HI3⟩
        · have q1 : decide ((12 : Int) < (s.xs.length : Int)) = true := decide_eq_true (by omega)
          clear HI2 h12
          go_wp2_with fail
          refine lw.known.mono ?_
          rintro e x99 ⟨rfl, hb9⟩
          go_wp2_with fail
          go_ret
          exact ⟨rfl, after_ lw.bel hb9⟩
      · obtain rfl : i = os.length := by omega
        have q0 : decide ((os.length : Int) < (os.length : Int)) = false := decide_eq_false (by omega)
        have h12 : ∀ s ∈ os, s.xs.length ≤ 12 := fun s hs => by
          obtain ⟨j, hj, rfl⟩ := List.getElem_of_mem hs
          exact HI.out j hj hj
        have H12 := Lib.hid h12
        clear h12 HI
        by_cases hok : M.mvsOk l
        case neg =>
          go_wp2_with fail
          refine (lw.legalNo pc lc OA oc os hO (by omega) (fun s hs => ⟨by have := H12.out s hs; omega, HOI.out s hs⟩) (by omega) hok).mono ?_
          rintro e x1 ⟨rfl, hbx⟩
          replace lw := lw.next hbx
          replace hO := hO.next hbx
          clear hbx
          go_wp2_with fail
          refine (lw.rlegalNo pc lc OA oc os hO (by omega) (fun s hs => by have := H12.out s hs; omega) (by omega) hok).mono ?_
          rintro e x2 ⟨rfl, hbx⟩
          replace lw := lw.next hbx
          replace hO := hO.next hbx
          clear hbx
          go_wp2_with fail
          refine lw.known.mono ?_
          rintro e x99 ⟨rfl, hb9⟩
          go_wp2_with fail
          go_ret
          exact ⟨rfl, after_ lw.bel hb9⟩
        case pos =>
          go_wp2_with fail
          refine (lw.legal pc lc OA oc os hO (by omega) (fun s hs => ⟨by have := H12.out s hs; omega, HOI.out s hs⟩) (by omega) (by omega) hok).mono ?_
          rintro e x1 ⟨rfl, hbx⟩
          replace lw := lw.next hbx
          replace hO := hO.next hbx
          clear hbx
          go_wp2_with fail
          refine (lw.rlegal pc lc OA oc os hO (by omega) (fun s hs => by have := H12.out s hs; omega) (by omega) (by omega) hok).mono ?_
          rintro e x2 ⟨rfl, hbx⟩
          replace lw := lw.next hbx
          replace hO := hO.next hbx
          clear hbx
          generalize M.legal ps l (os.map (·.xs)) = lg
          have ql : (lg == lg) = true := by simp
          go_wp2_with fail
          refine lw.known.mono ?_
          rintro e x99 ⟨rfl, hb9⟩
          go_wp2_with fail
          go_ret
          exact ⟨rfl, after_ lw.bel hb9⟩
end Go.Proofs.YtceobfigfmnacaaDoor
end
