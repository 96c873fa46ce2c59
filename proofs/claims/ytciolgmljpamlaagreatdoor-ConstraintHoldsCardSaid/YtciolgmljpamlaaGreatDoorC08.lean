/- A bundle of texts: RuNb, RuNb2, Co6. -/
import Derived.Test.YtciolgmljpamlaaGreatDoorC05
import Derived.Test.YtciolgmljpamlaaGreatDoorC07
import Derived.Maps.OwnOps
section
namespace Go.Proofs.YtciolgmljpamlaaGreatDoor
open Go Go.RowKit Go.Maps
set_option maxRecDepth 100000
abbrev ruv (PA : Option Addr) (pn pc : Nat) (LA : Option Addr) (ln lc : Nat) (CA : Option Addr) (cn cc : Nat) : Value := .agg #[.slice PA pn pc, .slice LA ln lc, .slice CA cn cc]
structure RW (w : World) (PA LA CA : Option Addr) (ps ls : List P5) (cs : List P4) : Prop where
  p : Sl 5 p5cell w w.heap.size PA ps
  l : Sl 5 p5cell w w.heap.size LA ls
  c : Sl 4 p4cell w w.heap.size CA cs
theorem RW.next {w w' : World} {PA LA CA : Option Addr} {ps ls : List P5} {cs : List P4} (h : RW w PA LA CA ps ls cs) (hb : Below w.heap.size w w') : RW w' PA LA CA ps ls cs :=
  ⟨(h.p.below hb).more hb.size, (h.l.below hb).more hb.size, (h.c.below hb).more hb.size⟩
set_option maxHeartbeats 4000000 in
theorem rvalid_any (PA LA CA : Option Addr) (pc lc cc : Nat) (ps ls : List P5) (cs : List P4) (w : World) (h : RW w PA LA CA ps ls cs) (h1 : ps.length ≤ 9223372036854775807) (h2 : ls.length ≤ 9223372036854775807) (h3 : cs.length ≤ 9223372036854775807) :
    Calls Tryz.prog 12 #[ruv PA ps.length pc LA ls.length lc CA cs.length cc] w fun e w' => e = .returned (.bool (M.rvalid ps ls cs)) ∧ Below w.heap.size w w' := by
  obtain ⟨V, HW, x0, hB, -⟩ := boxes1 w #[.slice PA ps.length pc, .slice LA ls.length lc, .slice CA cs.length cc] 30
  have hr := h.next hB
  obtain ⟨c0, c1, c2⟩ := x0.c3
  have k1 := vlistPairs_any 4096 PA pc ps V hr.p (by omega) h1
  unfold M.rvalid
  have hV := HW.out
  cases q1 : M.vlist 4096 M.vPair M.cmp5 ps with
  | false =>
    rw [q1] at k1
    go_enter Tryz.func12, Tryz.ntmps12
    go_wp2_with fail
    refine k1.mono ?_
    rintro e w1 ⟨rfl, hb1⟩
    go_wp2_with fail
    go_ret
    exact ⟨rfl, after_ hB hb1⟩
  | true =>
    rw [q1] at k1
    cases q2 : M.vlist 1024 M.vLoad M.cmp5 ls with
    | false =>
      go_enter Tryz.func12, Tryz.ntmps12
      go_wp2_with fail
      refine k1.mono ?_
      rintro e w1 ⟨rfl, hb1⟩
      obtain ⟨d0, d1, d2⟩ := (x0.below hb1).c3
      have k2 := vlistLoads_any 1024 LA lc ls w1 (hr.next hb1).l (by omega) h2
      rw [q2] at k2
      go_wp2_with fail
      refine k2.mono ?_
      rintro e w2 ⟨rfl, hb2⟩
      go_wp2_with fail
      go_ret
      exact ⟨rfl, after_ (after_ hB hb1) hb2⟩
    | true =>
      go_enter Tryz.func12, Tryz.ntmps12
      go_wp2_with fail
      refine k1.mono ?_
      rintro e w1 ⟨rfl, hb1⟩
      obtain ⟨d0, d1, d2⟩ := (x0.below hb1).c3
      have k2 := vlistLoads_any 1024 LA lc ls w1 (hr.next hb1).l (by omega) h2
      rw [q2] at k2
      go_wp2_with fail
      refine k2.mono ?_
      rintro e w2 ⟨rfl, hb2⟩
      clear d0 d1 d2
      obtain ⟨d0, d1, d2⟩ := ((x0.below hb1).below hb2).c3
      have k3 := vlistCaps_any 1024 CA cc cs w2 ((hr.next hb1).next hb2).c (by omega) h3
      go_wp2_with fail
      refine k3.mono ?_
      rintro e w3 ⟨rfl, hb3⟩
      go_wp2_with fail
      go_ret
      exact ⟨by simp, after_ (after_ (after_ hB hb1) hb2) hb3⟩
def KeysN {H : Type} (D : DataW H) (l : List Int) : Prop := KeysAre D l ∧ (intKeys D).Nodup
theorem KeysN.none_ {H : Type} : KeysN (.map [] : DataW H) [] := ⟨KeysAre.none_, by simp [intKeys]⟩
theorem insert_nodup {H : Type} {x : Lit × DataW H} {f : Lit × DataW H → Int} : ∀ {l : List (Lit × DataW H)}, f x ∉ l.map f → (l.map f).Nodup → ((DataW.insert x l).map f).Nodup
  | [], _, _ => by simp [DataW.insert]
  | y :: r, h1, h2 => by
    unfold DataW.insert
    split
    · rw [List.map_cons, List.nodup_cons]; exact ⟨h1, h2⟩
    · rw [List.map_cons, List.nodup_cons] at h2 ⊢
      rw [List.map_cons, List.mem_cons, not_or] at h1
      refine ⟨fun hm => ?_, insert_nodup h1.2 h2.2⟩
      obtain ⟨p, hp, e⟩ := List.mem_map.1 hm
      rcases mem_insert.1 hp with rfl | hp
      · exact h1.1 e
      · exact h2.1 (List.mem_map.2 ⟨p, hp, e⟩)
theorem KeysN.put {H : Type} {D : DataW H} {l : List Int} (h : KeysN D l) (x : Int) (d : DataW H) : KeysN (D.put (.int .i64 x) d) (l ++ [x]) := by
  refine ⟨h.1.put x d, ?_⟩
  obtain ⟨⟨es, rfl, hk, _⟩, hn⟩ := h
  refine insert_nodup (f := fun p => Go.intOf p.1) ?_ ?_
  · intro hm
    obtain ⟨p, hp, e⟩ := List.mem_map.1 hm
    obtain ⟨hp1, hp2⟩ := List.mem_filter.1 hp
    obtain ⟨z, hz⟩ := hk p hp1
    have e' : z = x := by
      have : Go.intOf p.1 = x := e
      rw [hz] at this
      exact this
    rw [hz, e'] at hp2
    simp [Lit.sameKey] at hp2
  · have hn2 : (es.map fun p => Go.intOf p.1).Nodup := hn
    exact List.Nodup.sublist (List.Sublist.map _ List.filter_sublist) hn2
def RetRise (w : World) (l : List Int) (n : Nat) (e : Ending) (w' : World) : Prop := ∃ (A : Option Addr) (c : Nat) (ss : List Int), e = .returned (.slice A ss.length c) ∧ Sl 1 icell w' w'.heap.size A ss ∧ ss.Pairwise (· < ·) ∧ (∀ x, x ∈ ss ↔ x ∈ l) ∧ ss.length ≤ n ∧ Below w.heap.size w w'
theorem keysB_ok2 (mb : Option Nat) (W : World) : Calls Tryz.prog 53 #[.map mb] W fun e w' => e = .returned (keysV 99 W.heap.size) ∧ Below W.heap.size W w' ∧ w'.cell? ⟨W.heap.size, 0, none⟩ = some (.map mb) :=
  ((callsIn_wide (n := 5)).1 (AnyZI.keys_in keysB Fence.wide 5 trivial rfl mb W)).mono fun e w' ⟨he, hw⟩ => ⟨he, by rw [hw]; exact (Below.refl _ _).alloc (Nat.le_refl _) _, by
    rw [hw, cell_of_row _ _ _ _ _ _ (heap_alloc_new W _)]; rfl⟩
theorem sortedB_ok {H : Type} (b nn : Nat) (D0 : DataW H) (R : Value → Option (DataW H × List MemPlace)) (l : List Int) (w : World) (hown : w.ownsMap Tryz.prog 3 R b nn D0) (bx : Nat) (hbx : w.cell? ⟨bx, 0, none⟩ = some (.map (some b))) (hK : KeysN D0 l) (hn : nn ≤ 10000000) :
    Calls Tryz.prog 52 #[keysV 99 bx] w (RetRise w l nn) := by
  have hsz := map_size hown
  have hlt : bx < w.heap.size := by
    apply Nat.lt_of_not_le; intro hle
    simp [World.cell?, Array.getElem?_eq_none hle] at hbx
  have hseq : SeqGives Fence.wide 2 Tryz.prog 99 #[.pointer (some ⟨bx, 0, none⟩)] encZ (fun ss => ss.Perm (intKeys D0)) (Maps.size D0) w :=
    AnyZI.keys_gives (ρ := keysB_ren) { keysB with } Fence.wide _ trivial rfl (by omega) bx b nn D0 _ hlt hbx hown
  refine ((callsIn_wide (n := 5)).1 (AnyZI.sorted_in sortedI Fence.wide 5 trivial trivial trivial trivial rfl (by omega) (sortsI _) (enters_of Tryz.func98 (by kernel_rfl) rfl) 99 #[.pointer (some ⟨bx, 0, none⟩)] trivial (enters_of Tryz.func99 (by kernel_rfl) rfl) _ _ (by unfold maxLen; omega) (by omega) _ hseq)).mono ?_
  rintro e w' ⟨v, ss, rfl, hp, hrow, -, hb⟩
  rw [flat_encZ] at hrow
  obtain ⟨A, c, rfl, hS⟩ := own_slice (by decide) hrow
  refine ⟨A, c, _, rfl, hS, ?_, fun x => ?_, ?_, hb⟩
  · have hs : (ss.mergeSort (fun x y => decide (x ≤ y))).Pairwise (fun x y => decide (x ≤ y) = true) := List.pairwise_mergeSort (fun a b c h1 h2 => by simp at *; omega) (fun a b => by simp; omega) ss
    have hnd : (ss.mergeSort (fun x y => decide (x ≤ y))).Nodup := (List.mergeSort_perm ss _).nodup_iff.2 (hp.nodup_iff.2 hK.2)
    refine List.Pairwise.imp₂ ?_ hs hnd
    intro a b h1 h2
    simp at h1
    omega
  · obtain ⟨⟨es, rfl, _, hm⟩, _⟩ := hK
    rw [List.mem_mergeSort, hp.mem_iff, hm]
  · rw [List.length_mergeSort, hp.length_eq]
    exact Nat.le_trans keys_size hsz
def Linked (w : World) (mb n : Nat) (l : List Int) (new : List Int) (e : Ending) (w' : World) : Prop := ∃ (n' : Nat) (D' : DataW Unit), e = .returned (.tuple #[]) ∧ w'.ownsMap Tryz.prog 3 (plainElem (H := Unit) Tryz.prog 4) mb n' D' ∧ KeysN D' (l ++ new) ∧ n' ≤ n + 1 ∧ w.grownBy w' (some mb)
set_option maxHeartbeats 4000000 in
theorem link_ok (a b n : Int) (bs bm mb m : Nat) (D : DataW Unit) (l : List Int) (w : World) (x0 : Box w bs #[.int .i64 n] 3) (x1 : Box w bm #[.map (some mb)] 95) (hown : w.ownsMap Tryz.prog 3 (plainElem (H := Unit) Tryz.prog 4) mb m D) (hK : KeysN D l) (hm : m ≤ 1000000) (ha : 0 ≤ a ∧ a ≤ 1000000) (hb : 0 ≤ b ∧ b ≤ 1000000) :
    Calls Tryz.prog 51 #[.int .i64 a, .int .i64 b, .pointer (some ⟨bs, 0, none⟩), .pointer (some ⟨bm, 0, none⟩)] w (Linked w mb m l (if n = a then [b] else if n = b then [a] else [])) := by
  have c0 := x0.c1
  have c1 := x1.c1
  have HK := Lib.hid hK
  clear hK
  by_cases h1 : n = a
  · have q1 : (n == a) = true := by simp [h1]
    have hkey := Maps.keyOf_int_mk (P := Tryz.prog) Tryz.underlying3 (show (Lit.int .i64 b).wf = true by simp [Lit.wf, IntKind.min, IntKind.max, IntKind.signed, IntKind.bits]; omega)
    rw [if_pos h1]
    clear h1
    go_enter Tryz.func51, Tryz.ntmps51
    go_wp2_with (at_mapUpdate; refine wpList_mapUpdate_own w rfl _ _ _ _ rfl 3 4 (Maps.int_keyed Tryz.underlying3) Tryz.underlying95 _ mb m D rfl hown (by unfold maxLen; omega) _ _ _ rfl rfl hkey _ [] (plainElem_bool Tryz.underlying4 true) ?_; intro w5 hown5 hg5)
    go_end0
    exact ⟨m + 1, _, rfl, hown5, HK.out.put b _, Nat.le_refl _, hg5⟩
  · have q1 : (n == a) = false := by simp [h1]
    rw [if_neg h1]
    clear h1
    by_cases h2 : n = b
    · have q2 : (n == b) = true := by simp [h2]
      have hkey := Maps.keyOf_int_mk (P := Tryz.prog) Tryz.underlying3 (show (Lit.int .i64 a).wf = true by simp [Lit.wf, IntKind.min, IntKind.max, IntKind.signed, IntKind.bits]; omega)
      rw [if_pos h2]
      clear h2
      go_enter Tryz.func51, Tryz.ntmps51
      go_wp2_with (at_mapUpdate; refine wpList_mapUpdate_own w rfl _ _ _ _ rfl 3 4 (Maps.int_keyed Tryz.underlying3) Tryz.underlying95 _ mb m D rfl hown (by unfold maxLen; omega) _ _ _ rfl rfl hkey _ [] (plainElem_bool Tryz.underlying4 true) ?_; intro w5 hown5 hg5)
      go_end0
      exact ⟨m + 1, _, rfl, hown5, HK.out.put a _, Nat.le_refl _, hg5⟩
    · have q2 : (n == b) = false := by simp [h2]
      rw [if_neg h2]
      clear h2
      go_enter Tryz.func51, Tryz.ntmps51
      go_wp2_with fail
      go_end0
      exact ⟨m, D, rfl, hown, by rw [List.append_nil]; exact HK.out, by omega, World.grownBy.refl w _⟩
end Go.Proofs.YtciolgmljpamlaaGreatDoor
end

section
namespace Go.Proofs.YtciolgmljpamlaaGreatDoor
open Go Go.RowKit Go.Maps
set_option maxRecDepth 100000
theorem M.vlist_mem {α : Type} {most : Nat} {v : α → Bool} {cf : α → α → Int} {l : List α} (h : M.vlist most v cf l = true) : l.length ≤ most ∧ ∀ x ∈ l, v x = true := by
  unfold M.vlist at h
  rw [Bool.and_eq_true, decide_eq_true_eq] at h
  refine ⟨h.1, fun x hx => ?_⟩
  obtain ⟨k, hk, rfl⟩ := List.getElem_of_mem hx
  have h2 := List.all_eq_true.1 h.2 k (by simpa using hk)
  rw [M.vstep_at hk, Bool.and_eq_true] at h2
  exact h2.1
theorem M.vPair_mem {p : P5} (h : M.vPair p = true) : p.a ≠ p.b ∧ (0 ≤ p.a ∧ p.a ≤ 511) ∧ (0 ≤ p.b ∧ p.b ≤ 511) := by
  unfold M.vPair M.isIn16 at h
  simp only [Bool.and_eq_true, decide_eq_true_eq] at h
  omega
theorem M.vLoad_mem {p : P5} (h : M.vLoad p = true) : p.a ≠ p.b ∧ (0 ≤ p.a ∧ p.a ≤ 511) ∧ (0 ≤ p.b ∧ p.b ≤ 511) := by
  unfold M.vLoad M.isIn16 at h
  simp only [Bool.and_eq_true, decide_eq_true_eq] at h
  omega
theorem M.rvalid_iff {ps ls : List P5} {cs : List P4} (h : M.rvalid ps ls cs = true) : (ps.length ≤ 4096 ∧ ls.length ≤ 1024) ∧ (∀ p ∈ ps, p.a ≠ p.b ∧ (0 ≤ p.a ∧ p.a ≤ 511) ∧ (0 ≤ p.b ∧ p.b ≤ 511)) ∧ ∀ p ∈ ls, p.a ≠ p.b ∧ (0 ≤ p.a ∧ p.a ≤ 511) ∧ (0 ≤ p.b ∧ p.b ≤ 511) := by
  unfold M.rvalid at h
  rw [Bool.and_eq_true, Bool.and_eq_true] at h
  have h1 := M.vlist_mem h.1.1
  have h2 := M.vlist_mem h.1.2
  exact ⟨⟨h1.1, h2.1⟩, fun p hp => M.vPair_mem (h1.2 p hp), fun p hp => M.vLoad_mem (h2.2 p hp)⟩
theorem bel_grown {w w' : World} (h : Below w.heap.size w w') : w.grownBy w' none := ⟨h.os, h.tape, h.output, h.size, fun k hk _ => h.block k hk⟩
theorem hmfB16 : ∀ (fn : Fn) (first cap : Array Value) (w : World), (Instr.makeFunc fn first cap).run Tryz.prog w = .ok (.func fn first cap) w := fun _ _ _ _ => rfl
set_option maxHeartbeats 8000000 in
theorem neighbours_ok (PA LA CA : Option Addr) (pc lc cc : Nat) (ps ls : List P5) (cs : List P4) (n : Int) (w : World) (h : RW w PA LA CA ps ls cs) (hl3 : cs.length ≤ 9223372036854775807) (hv : M.rvalid ps ls cs = true) (hn : M.isIn16 n 0 511 = true) :
    Calls Tryz.prog 14 #[ruv PA ps.length pc LA ls.length lc CA cs.length cc, .int .i64 n] w (RetL 1 icell w (M.nbs n ps ls) 0) := by
  obtain ⟨V, HW, x0, x1, hB0, hs⟩ := boxes2 w #[.slice PA ps.length pc, .slice LA ls.length lc, .slice CA cs.length cc] 30 #[.int .i64 n] 3
  have HS := Lib.hid hs
  clear hs
  obtain ⟨⟨hl1, hl2⟩, hp0, hl0⟩ := M.rvalid_iff hv
  have HP := Lib.hid hp0
  have HL := Lib.hid hl0
  clear hp0 hl0
  have kV := rvalid_any PA LA CA pc lc cc ps ls cs V (h.next hB0) (by omega) (by omega) hl3
  rw [hv] at kV
  obtain ⟨c0, c1, c2⟩ := x0.c3
  have hV := HW.out
  go_enter Tryz.func14, Tryz.ntmps14
  go_wp2_with fail
  clear hV c0 c1 c2
  refine kV.mono ?_
  rintro e w2 ⟨rfl, hb1⟩
  have d0 := (x1.below hb1).c1
  have kS := isSt_ok n w2
  rw [hn] at kS
  go_wp2_with fail
  refine kS.mono ?_
  rintro e w3 ⟨rfl, rfl⟩
  clear kS kV d0
  have B2 := after_ hB0 hb1
  have hmm := @run_makeMap Tryz.prog
  obtain ⟨U, HU⟩ : ∃ U, Hid ((w2.alloc (.map #[] 0)).alloc (.cells #[.map (some w2.heap.size)] 95) = U) := ⟨_, Lib.hid rfl⟩
  have hbU : Below w2.heap.size w2 U := by rw [← HU.out]; exact ((Below.refl _ _).alloc (Nat.le_refl _) _).alloc (by simp) _
  have BU := after_ B2 hbU
  have hownU : U.ownsMap Tryz.prog 3 (plainElem (H := Unit) Tryz.prog 4) w2.heap.size 0 (.map []) := by rw [← HU.out]; exact (World.ownsMap_made _ _ _ _).alloc _
  have xmU : Box U (w2.heap.size + 1) #[.map (some w2.heap.size)] 95 := by
    rw [← HU.out]
    have := Box.new (w2.alloc (.map #[] 0)) #[.map (some w2.heap.size)] 95
    rwa [show (w2.alloc (.map #[] 0)).heap.size = w2.heap.size + 1 by simp] at this
  have r0 := (x0.below hb1).below hbU
  have r1 := (x1.below hb1).below hbU
  have hsz : w.heap.size + 2 ≤ w2.heap.size := by have := HS.out; have := hb1.size; omega
  have hU := HU.out
  have hmf := hmfB16
  obtain ⟨c0, c1, c2⟩ := r0.c3
  go_wp2_with fail
  clear hU hmm c0 c1 c2
  go_loopw [9, 25] (fun _ i wr => ∃ (k m : Nat) (D : DataW Unit), k ≤ ps.length ∧ i = .int .i64 k ∧ m ≤ 0 + k ∧ Below w.heap.size w wr ∧ Box wr w.heap.size #[.slice PA ps.length pc, .slice LA ls.length lc, .slice CA cs.length cc] 30 ∧ Box wr (w.heap.size + 1) #[.int .i64 n] 3 ∧ Box wr (w2.heap.size + 1) #[.map (some w2.heap.size)] 95 ∧ wr.ownsMap Tryz.prog 3 (plainElem (H := Unit) Tryz.prog 4) w2.heap.size m D ∧ Hid (KeysN D (M.lnks n (ps.take k)))) (fun _ i _ => ps.length - (intOf i).toNat)
  case atStart => exact ⟨0, 0, .map [], Nat.zero_le _, rfl, by omega, BU, r0, r1, xmU, hownU, Lib.hid (by simpa [M.lnks] using KeysN.none_)⟩
  case round =>
    obtain ⟨k, m, D, hk, rfl, hmk, hB, y0, y1, y2, hown, HK⟩ := hrel
    by_cases hlt : k < ps.length
    · obtain ⟨la, hla, hlb, a0, hj⟩ := (((h.p).below hB).more hB.size).sp (by decide) hlt
      have a1 := hj 1 (by decide) (by decide)
      have a2 := hj 2 (by decide) (by decide)
      have a3 := hj 3 (by decide) (by decide)
      have a4 := hj 4 (by decide) (by decide)
      clear hj
      have hbd := HP.out ps[k] (List.getElem_mem hlt)
      have HT : Hid (M.lnks n (ps.take (k + 1)) = M.lnks n (ps.take k) ++ M.lnk n ps[k]) := Lib.hid (by unfold M.lnks; rw [List.take_succ_eq_append_getElem hlt, List.flatMap_append]; simp)
      obtain ⟨x, hx⟩ : ∃ x, ps[k] = x := ⟨_, rfl⟩
      rw [hx] at a0 a1 a2 a3 a4 hbd HT
      clear hx
      simp only [p5cell] at a0 a1 a2 a3 a4
      obtain ⟨X, HX, u0, hbX, hsX⟩ := boxes1 wr (p5c x) 66
      have HSX := Lib.hid hsX
      clear hsX
      have z0 := y0.below hbX
      have z1 := y1.below hbX
      have z2 := y2.below hbX
      have hownX := hown.kept (bel_grown hbX) (by simp)
      have BX := after_ hB hbX
      obtain ⟨m0, m1, m2, m3, m4⟩ := u0.c5
      have hX := HX.out
      subst hla
      go_wp2_with fail
      clear hX m0 m1 m2 m3 m4 a0 a1 a2 a3 a4
      refine (link_ok x.a x.b n (w.heap.size + 1) (w2.heap.size + 1) w2.heap.size m D _ X z1 z2 hownX HK.out (by omega) (by omega) (by omega)).mono ?_
      rintro e w5 ⟨m', D', rfl, hown5, hK5, hm5, hg5⟩
      have lt0 := hownX.lt
      have B5 : Below w.heap.size w w5 := BX.grown hg5 BX.size (fun j e => by cases e; omega)
      have v0 := z0.grown hg5 (fun e => by have := Option.some.inj e; omega)
      have v1 := z1.grown hg5 (fun e => by have := Option.some.inj e; omega)
      have v2 := z2.grown hg5 (fun e => by have := Option.some.inj e; omega)
      have HK2 : Hid (KeysN D' (M.lnks n (ps.take (k + 1)))) := Lib.hid (by rw [HT.out]; exact hK5)
      go_wp2_with fail
      go_roundw
      case rel => exact ⟨k + 1, m', D', hlt, by go_num, by omega, B5, v0, v1, v2, hown5, HK2⟩
      case measure => simp [intOf]; omega
    · obtain rfl : k = ps.length := by omega
      obtain ⟨c0, c1, c2⟩ := y0.c3
      go_wp2_with fail
      clear c0 c1 c2
      go_loopw [11, 39] (fun _ i wr => ∃ (k m : Nat) (D : DataW Unit), k ≤ ls.length ∧ i = .int .i64 k ∧ m ≤ ps.length + k ∧ Below w.heap.size w wr ∧ Box wr w.heap.size #[.slice PA ps.length pc, .slice LA ls.length lc, .slice CA cs.length cc] 30 ∧ Box wr (w.heap.size + 1) #[.int .i64 n] 3 ∧ Box wr (w2.heap.size + 1) #[.map (some w2.heap.size)] 95 ∧ wr.ownsMap Tryz.prog 3 (plainElem (H := Unit) Tryz.prog 4) w2.heap.size m D ∧ Hid (KeysN D (M.lnks n ps ++ M.lnks n (ls.take k)))) (fun _ i _ => ls.length - (intOf i).toNat)
      case atStart => exact ⟨0, m, D, Nat.zero_le _, rfl, by omega, hB, y0, y1, y2, hown, Lib.hid (by have := HK.out; rw [List.take_length] at this; simpa [M.lnks] using this)⟩
      case round =>
        obtain ⟨k, m, D, hk, rfl, hmk, hB, y0, y1, y2, hown, HK⟩ := hrel
        by_cases hlt : k < ls.length
        · obtain ⟨la, hla, hlb, a0, hj⟩ := (((h.l).below hB).more hB.size).sp (by decide) hlt
          have a1 := hj 1 (by decide) (by decide)
          have a2 := hj 2 (by decide) (by decide)
          have a3 := hj 3 (by decide) (by decide)
          have a4 := hj 4 (by decide) (by decide)
          clear hj
          have hbd := HL.out ls[k] (List.getElem_mem hlt)
          have HT : Hid (M.lnks n (ls.take (k + 1)) = M.lnks n (ls.take k) ++ M.lnk n ls[k]) := Lib.hid (by unfold M.lnks; rw [List.take_succ_eq_append_getElem hlt, List.flatMap_append]; simp)
          obtain ⟨x, hx⟩ : ∃ x, ls[k] = x := ⟨_, rfl⟩
          rw [hx] at a0 a1 a2 a3 a4 hbd HT
          clear hx
          simp only [p5cell] at a0 a1 a2 a3 a4
          obtain ⟨X, HX, u0, hbX, hsX⟩ := boxes1 wr (p5c x) 68
          have HSX := Lib.hid hsX
          clear hsX
          have z0 := y0.below hbX
          have z1 := y1.below hbX
          have z2 := y2.below hbX
          have hownX := hown.kept (bel_grown hbX) (by simp)
          have BX := after_ hB hbX
          obtain ⟨m0, m1, m2, m3, m4⟩ := u0.c5
          have hX := HX.out
          subst hla
          go_wp2_with fail
          clear hX m0 m1 m2 m3 m4 a0 a1 a2 a3 a4
          refine (link_ok x.a x.b n (w.heap.size + 1) (w2.heap.size + 1) w2.heap.size m D _ X z1 z2 hownX HK.out (by omega) (by omega) (by omega)).mono ?_
          rintro e w5 ⟨m', D', rfl, hown5, hK5, hm5, hg5⟩
          have lt0 := hownX.lt
          have B5 : Below w.heap.size w w5 := BX.grown hg5 BX.size (fun j e => by cases e; omega)
          have v0 := z0.grown hg5 (fun e => by have := Option.some.inj e; omega)
          have v1 := z1.grown hg5 (fun e => by have := Option.some.inj e; omega)
          have v2 := z2.grown hg5 (fun e => by have := Option.some.inj e; omega)
          have HK2 : Hid (KeysN D' (M.lnks n ps ++ M.lnks n (ls.take (k + 1)))) := Lib.hid (by rw [HT.out]; rw [← List.append_assoc]; exact hK5)
          go_wp2_with fail
          go_roundw
          case rel => exact ⟨k + 1, m', D', hlt, by go_num, by omega, B5, v0, v1, v2, hown5, HK2⟩
          case measure => simp [intOf]; omega
        · obtain rfl : k = ls.length := by omega
          have c1 := y2.c1
          go_wp2_with fail
          refine (keysB_ok2 _ _).mono ?_
          rintro e w6 ⟨rfl, hb6, hcell⟩
          have hown6 := hown.kept (bel_grown hb6) (by simp)
          go_wp2_with fail
          refine (sortedB_ok w2.heap.size m D _ _ w6 hown6 _ hcell HK.out (by omega)).mono ?_
          rintro e w7 ⟨A9, c9, ss, rfl, hS9, hpw, hmem, hlen, hb7⟩
          have HE : Hid (ss = M.nbs n ps ls) := Lib.hid (M.nbs_of hpw HP.out HL.out (fun x => by have := hmem x; rwa [List.take_length] at this))
          have B7 := after_ (after_ hB hb6) hb7
          clear hmem hpw
          go_wp2_with fail
          go_ret2
          exact ⟨A9, c9, by rw [← HE.out]; rfl, by rw [← HE.out]; exact hS9, B7⟩
end Go.Proofs.YtciolgmljpamlaaGreatDoor
end

section
namespace Go.Proofs.YtciolgmljpamlaaGreatDoor
open Go Go.RowKit
set_option maxRecDepth 100000
def M.full (n m k : Nat) : Bool := decide (4096 < n) || decide (1024 < m) || decide (1024 < k)
set_option maxHeartbeats 4000000 in
theorem full_any (PA LA CA : Option Addr) (pc lc cc n m k : Nat) (w : World) :
    Calls Tryz.prog 78 #[ruv PA n pc LA m lc CA k cc] w fun e w' => e = .returned (.bool (M.full n m k)) ∧ Below w.heap.size w w' := by
  obtain ⟨V, HW, x0, hB, -⟩ := boxes1 w #[.slice PA n pc, .slice LA m lc, .slice CA k cc] 30
  obtain ⟨c0, c1, c2⟩ := x0.c3
  have hV := HW.out
  unfold M.full
  by_cases e1 : 4096 < n
  · have q1 : decide (4096 < (n : Int)) = true := decide_eq_true (by omega)
    have q1' : decide (4096 < n) = true := decide_eq_true e1
    rw [q1']
    go_enter Tryz.func78, Tryz.ntmps78
    go_wp2_with fail
    go_ret
    exact ⟨rfl, hB⟩
  have q1 : decide (4096 < (n : Int)) = false := decide_eq_false (by omega)
  have q1' : decide (4096 < n) = false := decide_eq_false e1
  by_cases e2 : 1024 < m
  · have q2 : decide (1024 < (m : Int)) = true := decide_eq_true (by omega)
    have q2' : decide (1024 < m) = true := decide_eq_true e2
    rw [q1', q2']
    go_enter Tryz.func78, Tryz.ntmps78
    go_wp2_with fail
    go_ret
    exact ⟨rfl, hB⟩
  have q2 : decide (1024 < (m : Int)) = false := decide_eq_false (by omega)
  have q2' : decide (1024 < m) = false := decide_eq_false e2
  by_cases e3 : 1024 < k
  · have q3 : decide (1024 < (k : Int)) = true := decide_eq_true (by omega)
    have q3' : decide (1024 < k) = true := decide_eq_true e3
    rw [q1', q2', q3']
    go_enter Tryz.func78, Tryz.ntmps78
    go_wp2_with fail
    go_ret
    exact ⟨rfl, hB⟩
  have q3 : decide (1024 < (k : Int)) = false := decide_eq_false (by omega)
  have q3' : decide (1024 < k) = false := decide_eq_false e3
  rw [q1', q2', q3']
  go_enter Tryz.func78, Tryz.ntmps78
  go_wp2_with fail
  go_ret
  exact ⟨rfl, hB⟩
end Go.Proofs.YtciolgmljpamlaaGreatDoor
end
