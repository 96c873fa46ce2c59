/- A bundle of texts: HoM47, LdSt, LdFu, LdHo0, LdHo1. -/
import Derived.Test.YtceobfigfmnacaaDoorH25
import Derived.Test.YtceobfigfmnacaaDoorH01
import Derived.Test.YtceobfigfmnacaaDoorH15
import Derived.Test.YtceobfigfmnacaaDoorH18
import Derived.BigRegion
section
namespace Go.Proofs.YtceobfigfmnacaaDoor
open Go
namespace M
theorem mem_flatO : ∀ {order : List (List Int)} {k i : Nat} {st : Int}, (i, st) ∈ flatO k order ↔ ∃ j, ∃ h : j < order.length, i = k + j ∧ st ∈ order[j]
  | [], k, i, st => by simp [flatO]
  | s :: r, k, i, st => by
    unfold flatO
    rw [List.mem_append, mem_flatO (order := r), List.mem_map]
    constructor
    · rintro (⟨x, hx, e⟩ | ⟨j, hj, e, hm⟩)
      · obtain ⟨rfl, rfl⟩ := Prod.mk.inj e
        exact ⟨0, by simp, rfl, hx⟩
      · exact ⟨j + 1, by simpa using hj, by omega, hm⟩
    · rintro ⟨j, hj, e, hm⟩
      cases j with
      | zero => exact .inl ⟨st, hm, by rw [e]; rfl⟩
      | succ j => exact .inr ⟨j, by simpa using hj, by omega, hm⟩
theorem mem_flat0 {order : List (List Int)} {i : Nat} {st : Int} : (i, st) ∈ flatO 0 order ↔ ∃ h : i < order.length, st ∈ order[i] := by
  rw [mem_flatO]
  constructor
  · rintro ⟨j, hj, e, hm⟩
    obtain rfl : i = j := by omega
    exact ⟨hj, hm⟩
  · rintro ⟨h, hm⟩; exact ⟨i, h, by omega, hm⟩
theorem flatO_snd : ∀ (order : List (List Int)) (k : Nat), (flatO k order).map (·.2) = order.flatten
  | [], _ => rfl
  | s :: r, k => by
    unfold flatO
    rw [List.map_append, flatO_snd r, List.map_map, List.flatten_cons]
    congr 1
    simp [Function.comp_def]
theorem stv_inj {l : List Mv} (h : mvsOk l) {x y : Nat} (hx : x < l.length) (hy : y < l.length) (e : stv l x = stv l y) : x = y := by
  rw [← stv_at hx, ← stv_at hy] at e
  exact mvsOk_inj h.2.2 hx hy e
section
variable {ps : List P5} {l : List Mv}
theorem grps_mem (hok : mvsOk l) {i : Nat} (hi : i < (grps ps l).length) {st : Int} : st ∈ (grps ps l)[i] ↔ ∃ h : i < (Dg.ord (rows ps l)).length, ∃ x, x < l.length ∧ Dg.Same (rows ps l) (Dg.ord (rows ps l))[i] x ∧ st = stv l x := by
  have hR := rows_ok (ps := ps) hok.1
  have hio : i < (Dg.ord (rows ps l)).length := by unfold grps at hi; simpa using hi
  have hv := (Dg.mem_leads.1 ((Dg.ord_mem hR).1 (List.getElem_mem hio))).1
  have e : (grps ps l)[i] = sts l (Dg.scc (rows ps l) (Dg.ord (rows ps l))[i]) := by simp [grps]
  rw [e, sts_eq, List.mem_map]
  clear e
  constructor
  · rintro ⟨x, hx, rfl⟩
    have hs := (Dg.scc_bit hR hv x).1 ((Bs.mem_els (Dg.scc_fit hR _)).1 hx)
    have hxl := hs.1.lt hR hv
    rw [rows_len] at hxl
    exact ⟨hio, x, hxl, hs, rfl⟩
  · rintro ⟨_, x, _, hs, rfl⟩
    exact ⟨x, (Bs.mem_els (Dg.scc_fit hR _)).2 ((Dg.scc_bit hR hv x).2 hs), rfl⟩
theorem grps_len_eq (ps : List P5) (l : List Mv) : (grps ps l).length = (Dg.ord (rows ps l)).length := by unfold grps; rw [List.length_map]
theorem grps_legal (hok : mvsOk l) : legal ps l (grps ps l) = 0 := by
  have hR := rows_ok (ps := ps) hok.1
  have hlead : ∀ v ∈ Dg.ord (rows ps l), v ∈ Dg.leads (rows ps l) := fun v hv => (Dg.ord_mem hR).1 hv
  have hvl : ∀ v ∈ Dg.ord (rows ps l), v < (rows ps l).length := fun v hv => (Dg.mem_leads.1 (hlead v hv)).1
  have hnd : ((([] : List (Nat × Int)) ++ flatO 0 (grps ps l)).map (·.2)).Nodup := by
    rw [List.nil_append, flatO_snd]
    unfold List.Nodup
    rw [List.pairwise_flatten]
    constructor
    · intro s hs
      unfold grps at hs
      obtain ⟨v, hv, rfl⟩ := List.mem_map.1 hs
      rw [sts_eq, List.pairwise_map]
      refine List.Pairwise.imp_of_mem (fun {a b} ha hb hne e => hne ?_) (Bs.els_nd (Dg.scc (rows ps l) v))
      have h1 := ((Dg.scc_bit hR (hvl v hv) a).1 ((Bs.mem_els (Dg.scc_fit hR _)).1 ha)).1.lt hR (hvl v hv)
      have h2 := ((Dg.scc_bit hR (hvl v hv) b).1 ((Bs.mem_els (Dg.scc_fit hR _)).1 hb)).1.lt hR (hvl v hv)
      rw [rows_len] at h1 h2
      exact stv_inj hok h1 h2 e
    · unfold grps
      rw [List.pairwise_map]
      refine List.Pairwise.imp_of_mem (fun {a b} ha hb hne x hx y hy e => hne ?_) (Dg.ord_nd hR)
      subst e
      rw [sts_eq] at hx hy
      obtain ⟨u, hu, rfl⟩ := List.mem_map.1 hx
      obtain ⟨u', hu', e⟩ := List.mem_map.1 hy
      have h1 := (Dg.scc_bit hR (hvl a ha) u).1 ((Bs.mem_els (Dg.scc_fit hR _)).1 hu)
      have h2 := (Dg.scc_bit hR (hvl b hb) u').1 ((Bs.mem_els (Dg.scc_fit hR _)).1 hu')
      have h3 := h1.1.lt hR (hvl a ha)
      have h4 := h2.1.lt hR (hvl b hb)
      rw [rows_len] at h3 h4
      obtain rfl := stv_inj hok h4 h3 e
      exact Dg.lead_one hR (hlead a ha) (hlead b hb) (h1.trans h2.symm)
  have hall : ∀ p ∈ flatO 0 (grps ps l), ∃ v, ∃ hv : v < l.length, l[v].st = p.2 := by
    rintro ⟨i, st⟩ hp
    obtain ⟨hi, hm⟩ := mem_flat0.1 hp
    obtain ⟨-, x, hx, -, rfl⟩ := (grps_mem hok hi).1 hm
    exact ⟨x, hx, stv_at hx⟩
  obtain ⟨S, hS⟩ := place_ok hok.2.2 _ _ _ (placed_start l) hall hnd
  have hpl := setOf_placed hok.2.2 (show setOf l (grps ps l) = some S from hS)
  have key : ∀ v (hv : v < l.length) i, S.getD v none = some i ↔ ∃ h : i < (Dg.ord (rows ps l)).length, Dg.Same (rows ps l) (Dg.ord (rows ps l))[i] v := fun v hv i => by
    rw [hpl.has v hv i, mem_flat0]
    constructor
    · rintro ⟨hi, hm⟩
      obtain ⟨h1, x, hx, hs, e⟩ := (grps_mem hok hi).1 hm
      rw [stv_at hv] at e
      obtain rfl := stv_inj hok hv hx e
      exact ⟨h1, hs⟩
    · rintro ⟨h1, hs⟩
      exact ⟨by rw [grps_len_eq]; exact h1, (grps_mem hok _).2 ⟨h1, v, hv, hs, stv_at hv⟩⟩
  rw [legal_zero hok.2.2]
  refine ⟨S, hS, fun v hv => ?_, fun v w i j hv hw hb hi hj => ?_⟩
  · obtain ⟨u, hu, hs, -⟩ := Dg.has_lead hR (v := v) (by rw [rows_len]; exact hv)
    obtain ⟨i, hi, e⟩ := List.getElem_of_mem ((Dg.ord_mem hR).2 hu)
    exact ⟨i, (key v hv i).2 ⟨hi, by rw [e]; exact hs⟩⟩
  · obtain ⟨h1, hs1⟩ := (key v hv i).1 hi
    obtain ⟨h2, hs2⟩ := (key w hw j).1 hj
    apply Classical.byContradiction
    intro hn
    have hij : i < j := by omega
    have hnd2 := Dg.ord_nd (R := rows ps l) hR
    by_cases hsw : Dg.Same (rows ps l) (Dg.ord (rows ps l))[i] w
    · have e := Dg.lead_one hR (hlead _ (List.getElem_mem h1)) (hlead _ (List.getElem_mem h2)) (hsw.trans hs2.symm)
      have := (List.getElem_inj hnd2).1 e
      omega
    · have hwt : (Dg.wt (rows ps l) (Dg.ord (rows ps l))[i]).testBit w = true := (Dg.wt_bit hR (hvl _ (List.getElem_mem h1)) w).2 ⟨⟨v, hs1, hb⟩, hsw⟩
      have hsplit : Dg.ord (rows ps l) = (Dg.ord (rows ps l)).take i ++ (Dg.ord (rows ps l))[i] :: (Dg.ord (rows ps l)).drop (i + 1) := by rw [List.getElem_cons_drop, List.take_append_drop]
      obtain ⟨u, hu, hsu⟩ := Dg.ord_wt hsplit hwt
      obtain ⟨k, hk, e⟩ := List.getElem_of_mem hu
      rw [List.length_take] at hk
      rw [List.getElem_take] at e
      have hko : k < (Dg.ord (rows ps l)).length := by omega
      have hul : u ∈ Dg.ord (rows ps l) := by rw [← e]; exact List.getElem_mem hko
      have hsu2 := (Dg.scc_bit hR (hvl u hul) w).1 hsu
      have e2 := Dg.lead_one hR (hlead _ hul) (hlead _ (List.getElem_mem h2)) (hsu2.trans hs2.symm)
      have := (List.getElem_inj hnd2).1 (e.trans e2)
      omega
def mvT (l : List Mv) (order : List (List Int)) (k : Nat) : Nat → Bool := fun m => (order.take k).any fun s => s.any fun st => decide (stv l m = st)
theorem mvT_iff {order : List (List Int)} {k m : Nat} : mvT l order k m = true ↔ ∃ i, ∃ h : i < order.length, i < k ∧ stv l m ∈ order[i] := by
  unfold mvT
  rw [List.any_eq_true]
  constructor
  · rintro ⟨s, hs, h⟩
    rw [List.any_eq_true] at h
    obtain ⟨st, hst, e⟩ := h
    rw [decide_eq_true_eq] at e
    subst e
    obtain ⟨i, hi, rfl⟩ := List.getElem_of_mem hs
    rw [List.length_take] at hi
    rw [List.getElem_take] at hst
    exact ⟨i, by omega, by omega, hst⟩
  · rintro ⟨i, hi, hk, hm⟩
    refine ⟨order[i], ?_, ?_⟩
    · rw [List.mem_take_iff_getElem]; exact ⟨i, by omega, rfl⟩
    · rw [List.any_eq_true]; exact ⟨_, hm, by simp⟩
theorem legal_steps (hok : mvsOk l) {order : List (List Int)} (hl : legal ps l order = 0) (hn : free ps l fun _ => false) (ha : free ps l fun _ => true) (c : Nat) : free ps l (mvT l order (c + 1)) := by
  obtain ⟨S, hS, h1, h2⟩ := (legal_zero hok.2.2).1 hl
  have hpl := setOf_placed hok.2.2 hS
  refine free_step hok.2.2 h1 h2 hn ha (c := c) (fun v hv => ?_)
  rw [mvT_iff]
  constructor
  · rintro ⟨i, hi, hic, hm⟩
    exact ⟨i, (hpl.has v hv i).2 (mem_flat0.2 ⟨hi, by rw [stv_at hv]; exact hm⟩), by omega⟩
  · rintro ⟨i, hi, hic⟩
    obtain ⟨h, hm⟩ := mem_flat0.1 ((hpl.has v hv i).1 hi)
    exact ⟨i, h, by omega, by rw [← stv_at hv]; exact hm⟩
def setAt (l : List Mv) (order : List (List Int)) (x : Nat) : Nat := match setOf l order with | some S => (S.getD x none).getD 0 | none => 0
theorem legal_sets (hok : mvsOk l) {order : List (List Int)} (hl : legal ps l order = 0) : (∀ x, x < l.length → (setAt l order x, stv l x) ∈ flatO 0 order) ∧ ∀ x y, x < l.length → y < l.length → Dg.Same (rows ps l) x y → setAt l order x = setAt l order y := by
  obtain ⟨S, hS, h1, h2⟩ := (legal_zero hok.2.2).1 hl
  have hpl := setOf_placed hok.2.2 hS
  have hval : ∀ x i, S.getD x none = some i → setAt l order x = i := fun x i h => by unfold setAt; rw [hS]; simp only; rw [h]; rfl
  constructor
  · intro x hx
    obtain ⟨i, hi⟩ := h1 x hx
    rw [hval x i hi, ← stv_at hx]
    exact (hpl.has x hx i).1 hi
  · intro x y hx hy hs
    obtain ⟨i, hi⟩ := h1 x hx
    obtain ⟨j, hj⟩ := h1 y hy
    rw [hval x i hi, hval y j hj]
    have := legal_reach hok.1 h1 h2 hx hs.1 i j hi hj
    have := legal_reach hok.1 h1 h2 hy hs.2 j i hj hi
    omega
theorem place_nodup (hok : mvsOk l) : ∀ (r : List (Nat × Int)) (os : List (Nat × Int)) (S T : List (Option Nat)), Placed l os S → (os.map (·.2)).Nodup → place l S r = some T → ((os ++ r).map (·.2)).Nodup
  | [], os, S, T, _, hn, _ => by rwa [List.append_nil]
  | (i, st) :: r, os, S, T, hp, hn, e => by
    have e0 := e
    unfold place at e
    cases hx : idx l st with
    | none => rw [hx] at e; cases e
    | some v =>
      rw [hx] at e
      simp only at e
      obtain ⟨hv, hs⟩ := idx_some hx
      by_cases hb : (S.getD v none).isSome = true
      · rw [if_pos hb] at e; cases e
      · rw [if_neg hb] at e
        have hone : place l S [(i, st)] = some (S.set v (some i)) := by
          unfold place
          rw [hx]
          simp only
          rw [if_neg hb]
          rfl
        have hp2 := place_placed hok.2.2 [(i, st)] os S _ hp hone
        have hn2 : ((os ++ [(i, st)]).map (·.2)).Nodup := by
          rw [List.map_append, List.nodup_append]
          refine ⟨hn, by simp, fun a ha b hb2 eab => ?_⟩
          simp only [List.map_cons, List.map_nil, List.mem_singleton] at hb2
          subst hb2
          subst eab
          obtain ⟨⟨j, st'⟩, hj, rfl⟩ := List.mem_map.1 ha
          have h3 := (hp.has v hv j).2 (by rw [hs]; exact hj)
          rw [h3] at hb
          exact hb rfl
        have := place_nodup hok r _ _ T hp2 hn2 e
        rwa [List.append_assoc, List.singleton_append] at this
theorem legal_nodup (hok : mvsOk l) {order : List (List Int)} (hl : legal ps l order = 0) : ((flatO 0 order).map (·.2)).Nodup := by
  obtain ⟨S, hS, -, -⟩ := (legal_zero hok.2.2).1 hl
  have := place_nodup hok (flatO 0 order) [] _ S (placed_start l) (by simp) hS
  rwa [List.nil_append] at this
theorem depth_grps (ps : List P5) (l : List Mv) : Dg.depth (rows ps l) ≤ (grps ps l).length := by rw [grps_len_eq]; exact Dg.depth_le _
theorem depth_none (hok : mvsOk l) : Dg.depth (rows ps l) = 0 ↔ l.length = 0 := by
  rw [Dg.depth_zero, Dg.ord_nil (rows_ok hok.1), ← List.length_eq_zero_iff, rows_len]
end
end M
end Go.Proofs.YtceobfigfmnacaaDoor
end

section
namespace Go.Proofs.YtceobfigfmnacaaDoor
open Go Go.RowKit
set_option maxRecDepth 100000
namespace M
def mvX (l : List Mv) (f : Nat → Bool) (xs : List Int) (k : Nat) : Nat → Bool := fun j => f j || (xs.take k).any fun st => decide (stv l j = st)
theorem mvX_zero (l : List Mv) (f : Nat → Bool) (xs : List Int) : mvX l f xs 0 = f := by funext j; simp [mvX]
theorem mvX_succ {l : List Mv} {f : Nat → Bool} {xs : List Int} {k : Nat} (hk : k < xs.length) (j : Nat) : mvX l f xs (k + 1) j = (mvX l f xs k j || decide (stv l j = xs[k])) := by
  unfold mvX
  rw [List.take_succ_eq_append_getElem hk, List.any_append, Bool.or_assoc]
  simp
theorem mvT_succ {l : List Mv} {order : List (List Int)} {i : Nat} (hi : i < order.length) : mvT l order (i + 1) = mvX l (mvT l order i) order[i] order[i].length := by
  funext j
  unfold mvT mvX
  rw [List.take_succ_eq_append_getElem hi, List.any_append, List.take_length]
  simp
def mvY (f g : Nat → Bool) (m : Nat) : Nat → Bool := fun j => if j < m then g j else f j
theorem mvY_zero (f g : Nat → Bool) : mvY f g 0 = f := by funext j; simp [mvY]
theorem mvY_succ (f g : Nat → Bool) (m : Nat) : (fun j => if j = m then g m else mvY f g m j) = mvY f g (m + 1) := by
  funext j
  unfold mvY
  by_cases e : j = m
  · subst e; rw [if_pos rfl, if_pos (by omega)]
  · rw [if_neg e]
    by_cases h : j < m
    · rw [if_pos h, if_pos (by omega)]
    · rw [if_neg h, if_neg (by omega)]
end M
set_option maxHeartbeats 32000000 in
theorem LW.steps {w W : World} {PA LA : Option Addr} {ps : List P5} {l : List Mv} (h : LW w W PA LA ps l) (pc lc : Nat) (OA : Option Addr) (oc : Nat) (os : List SLc) (hO : LL W OA os) (hp : ps.length ≤ 1000000) (hl : l.length ≤ 1000000) (hol : os.length ≤ 1000000) (hoi : ∀ s ∈ os, s.xs.length ≤ 1000000) :
    Calls Tryd.prog 26 #[.slice PA ps.length pc, .slice LA l.length lc, .slice OA os.length oc] W fun e w' => (∃ r, e = .returned (.bool r) ∧ (r = true ↔ ∀ c, c < os.length → M.free ps l (M.mvT l (os.map (·.xs)) (c + 1)))) ∧ Below W.heap.size W w' := by
  obtain ⟨ib, hib, hzb0, hzb1, hzb2⟩ := info_parts blInfo
  have Hib := Lib.hid hib; have Hzb0 := Lib.hid hzb0; have Hzb1 := Lib.hid hzb1; have Hzb2 := Lib.hid hzb2
  clear hib hzb0 hzb1 hzb2
  have HL := Lib.hid (fun (u : World) (hu : Below W.heap.size W u) => (h.next hu).moves)
  have HFR := Lib.hid (fun (u : World) (hu : Below W.heap.size W u) (MA : Option Addr) (mc : Nat) (mv : Nat → Bool) (hM : Sl 1 blc u u.heap.size MA (fnl l.length mv)) => (h.next hu).free pc lc MA mc mv hM hp hl)
  have HOI := Lib.hid hoi
  clear h hoi
  obtain ⟨n, hn⟩ : ∃ n, l.length = n := ⟨_, rfl⟩
  have HN := Lib.hid hn
  rw [hn] at hl HFR ⊢
  clear hn
  go_enter Tryd.func26, Tryd.ntmps26
  go_wp2_with (at_make; refine wpList_make_full _ rfl _ _ 54 rfl W.heap.size 4 ib _ 1 Tryd.underlying54 Hib.out Hzb0.out Hzb1.out .i64 .i64 _ _ n rfl rfl rfl rfl (by rw [Hzb2.out]; omega) (by unfold maxLen; omega) (Nat.le_refl _) ?_; intro w4 hown4 hg4)
  have em := made_flat (cell := blc) (size := 1) (x0 := false) (by decide) (Value.bool false).cells rfl n
  rw [em, fnl_rep] at hown4
  clear em
  have B4 : Below W.heap.size W w4 := (Below.refl _ _).grown hg4 (Nat.le_refl _) (by simp)
  have br0 : BR w4 W.heap.size W.heap.size n (M.mvT l (os.map (·.xs)) 0) := hown4
  clear hown4 hg4
  refine wp_loop_mrg [8, 9, 10, 14, 15, 16, 17, 18, 19, 20, 21, 22, 23, 24, 25, 26, 27, 28, 29, 30, 31, 32, 33, 34, 35, 36, 37, 38, 39, 40, 41, 42, 43, 44, 45, 46, 47, 48, 49, 50, 51, 52, 53, 54, 55, 56, 57, 58, 59, 60, 61] (fun mm f ds W0 => ds = [] ∧ ∃ (i : Nat), f 8 = .int .i64 i ∧ mm = os.length - i ∧ i ≤ os.length ∧ Below W.heap.size W W0 ∧ BR W0 W.heap.size W.heap.size n (M.mvT l (os.map (·.xs)) i) ∧ Hid (∀ c, c < i → M.free ps l (M.mvT l (os.map (·.xs)) (c + 1)))) os.length ⟨rfl, 0, rfl, rfl, Nat.zero_le _, B4, br0, Lib.hid (fun c h => absurd h (by omega))⟩ ?_
  clear br0 B4
  intro c1' T1' hc2 hT2
  rintro mm f ds W0 ⟨rfl, i, hf8, rfl, hi, hB, hbr, HI⟩
  replace hc2 := hc2.out
  subst hc2
  replace hT2 := hT2.out
  subst hT2
  generalize hF : mrgF _ 0 _ _ = F
  simp only [mrg_hit, mrg_miss, mrg_nil, Nat.reduceBEq, Nat.reduceAdd] at hF
  rw [hf8] at hF
  subst hF
  by_cases hlt : i < os.length
  · have x0i : (0 : Int) ≤ (i : Int) := by omega
    have x1i : (i : Int) < (os.length : Int) := by omega
    have q0i : decide ((i : Int) < (os.length : Int)) = true := decide_eq_true x1i
    have HOU : Hid (∀ u, Below W.heap.size W u → ∃ lo, OA = some lo ∧ (lo.add i).block < u.heap.size ∧ u.cell? (lo.add i) = some (slcell os[i] 0)) := Lib.hid (fun u hb => (hO.next hb).outer.one_at hlt)
    have HIN : Hid (∀ u, Below W.heap.size W u → Sl 1 icell u u.heap.size os[i].A os[i].xs) := Lib.hid (fun u hb => (hO.next hb).inner _ (List.getElem_mem hlt))
    have HMT : Hid (M.mvT l (os.map (·.xs)) (i + 1) = M.mvX l (M.mvT l (os.map (·.xs)) i) os[i].xs os[i].xs.length) := Lib.hid (by rw [M.mvT_succ (by simpa using hlt)]; simp)
    have hsl := HOI.out os[i] (List.getElem_mem hlt)
    generalize os[i] = s at *
    have br1 : BR W0 W.heap.size W.heap.size n (M.mvX l (M.mvT l (os.map (·.xs)) i) s.xs 0) := by rw [M.mvX_zero]; exact hbr
    clear hbr
    go_wp2_with fail
    refine wp_loop_mrg [9, 10, 20, 21, 22, 23, 24, 25, 26, 27, 28, 29, 30, 31, 32, 33, 34, 35, 36, 37, 38, 39, 40, 41, 42, 43, 44, 45, 46, 47, 48, 49, 50, 51, 52, 53, 54, 55, 56] (fun mm f ds W1 => ds = [] ∧ ∃ (k : Nat), f 9 = .int .i64 k ∧ mm = s.xs.length - k ∧ k ≤ s.xs.length ∧ Below W.heap.size W W1 ∧ BR W1 W.heap.size W.heap.size n (M.mvX l (M.mvT l (os.map (·.xs)) i) s.xs k)) s.xs.length ⟨rfl, 0, rfl, rfl, Nat.zero_le _, hB, br1⟩ ?_
    clear br1 hB
    intro c2' T2' hc2 hT2
    rintro mm f ds W1 ⟨rfl, k, hf9, rfl, hk, hB1, hbr1⟩
    replace hc2 := hc2.out
    subst hc2
    replace hT2 := hT2.out
    subst hT2
    generalize hF : mrgF _ 0 _ _ = F
    simp only [mrg_hit, mrg_miss, mrg_end, Nat.reduceBEq, Nat.reduceAdd] at hF
    rw [hf9] at hF
    subst hF
    obtain ⟨lo, hlo, hlob, o0⟩ := HOU.out W1 hB1
    rw [show slcell s 0 = .slice s.A s.xs.length s.c from rfl] at o0
    have HLO := Lib.hid hlo
    subst hlo
    by_cases hltk : k < s.xs.length
    · have x0k : (0 : Int) ≤ (k : Int) := by omega
      have x1k : (k : Int) < (s.xs.length : Int) := by omega
      have q0k : decide ((k : Int) < (s.xs.length : Int)) = true := decide_eq_true x1k
      have HXS := Lib.hid (fun (j : Nat) => M.mvX_succ (l := l) (f := M.mvT l (os.map (·.xs)) i) hltk j)
      have HSX : Hid (∀ u, Below W.heap.size W u → ∃ ls, s.A = some ls ∧ ls.block < u.heap.size ∧ u.cell? (ls.add k) = some (.int .i64 s.xs[k])) := Lib.hid (fun u hb => by
        obtain ⟨ls, h1, h2, h3⟩ := (HIN.out u hb).int_at hltk
        exact ⟨ls, h1, h2, h3⟩)
      generalize s.xs[k] = sx at *
      generalize hf1 : M.mvX l (M.mvT l (os.map (·.xs)) i) s.xs k = fk at *
      generalize hf2 : M.mvX l (M.mvT l (os.map (·.xs)) i) s.xs (k + 1) = fk1 at *
      have HF2 := Lib.hid hf2
      have br2 : BR W1 W.heap.size W.heap.size n (M.mvY fk fk1 0) := by rw [M.mvY_zero]; exact hbr1
      clear hf1 hf2 hbr1
      go_wp2_with fail
      clear o0
      refine wp_loop_mrg [10, 29, 30, 31, 32, 33, 34, 35, 36, 37, 38, 39, 40, 41, 42, 43, 44, 45, 46, 47, 48, 49, 50, 51, 52, 53, 54, 55, 56] (fun mm f ds W2 => ds = [] ∧ ∃ (m : Nat), f 10 = .int .i64 m ∧ mm = n - m ∧ m ≤ n ∧ Below W.heap.size W W2 ∧ BR W2 W.heap.size W.heap.size n (M.mvY fk fk1 m)) n ⟨rfl, 0, rfl, rfl, Nat.zero_le _, hB1, br2⟩ ?_
      clear br2 hB1
      intro c3' T3' hc2 hT2
      rintro mm f ds W2 ⟨rfl, m, hf10, rfl, hm, hB2, hbr2⟩
      replace hc2 := hc2.out
      subst hc2
      replace hT2 := hT2.out
      subst hT2
      generalize hF : mrgF _ 0 _ _ = F
      simp only [mrg_hit, mrg_miss, mrg_end, Nat.reduceBEq, Nat.reduceAdd] at hF
      rw [hf10] at hF
      subst hF
      by_cases hltm : m < n
      · have x0m : (0 : Int) ≤ (m : Int) := by omega
        have x1m : (m : Int) < (n : Int) := by omega
        have q0m : decide ((m : Int) < (n : Int)) = true := decide_eq_true x1m
        obtain ⟨c0, f0⟩ := hbr2.at hltm
        have eY : M.mvY fk fk1 m m = fk m := by unfold M.mvY; rw [if_neg (by omega)]
        rw [eY] at c0
        have hset := hbr2.set hltm (fk1 m)
        rw [M.mvY_succ] at hset
        have hBs := hB2.setCell (p := ⟨W.heap.size, m, none⟩) (Nat.le_refl _) (.bool (fk1 m))
        obtain ⟨rm, hrm⟩ : ∃ r, fk m = r := ⟨_, rfl⟩
        rw [hrm] at c0
        obtain ⟨la, hla, hlb, a0, -⟩ := (HL.out W2 hB2).mv6 (show m < l.length by rw [HN.out]; exact hltm)
        rw [M.stv_at] at a0
        have hx1 := HXS.out m
        rw [hrm] at hx1
        subst hla
        cases rm with
        | true =>
          have e1 : fk1 m = true := by rw [hx1]; rfl
          rw [e1] at hset hBs
          clear hx1 e1 eY hrm a0 hlb
          go_wp2_with fail
          refine steps_reg11t (lo := lo) x0m x1m f0 c0 (by kernel_rfl) ?_
          rintro z35 z36 z37 z38 z39 z40 z41 z42 z43 z44 z45 z46 z47 z48 z49 z50 z51 z52 z53 z54 z55 z56 Y rfl
          clear c0 f0
          replace hset := own_below hset (Below.refl _ _).drew
          replace hBs := hBs.drew
          go_wp2_with fail
          exact ⟨_, rfl, rfl, n - (m + 1), by omega, by trivial, m + 1, rfl, rfl, hltm, hBs, hset⟩
        | false =>
          obtain ⟨ls, hls, -, d0⟩ := HSX.out W2 hB2
          obtain ⟨lo', hlo', -, o2⟩ := HOU.out W2 hB2
          obtain rfl := Option.some.inj hlo'
          rw [show slcell s 0 = .slice s.A s.xs.length s.c from rfl, hls] at o2
          obtain ⟨r, hr⟩ : ∃ r, (M.stv l m == sx) = r := ⟨_, rfl⟩
          have e1 : fk1 m = r := by rw [hx1, Bool.false_or, ← hr]; rfl
          rw [e1] at hset hBs
          have HR := Lib.hid hr
          clear hx1 e1 eY hrm hr hls
          go_wp2_with fail
          refine steps_reg11f x0i x1i x0k x1k x0m x1m f0 c0 a0 o2 d0 r HR.out (by kernel_rfl) ?_
          rintro z35 z36 z37 z38 z39 z40 z41 z42 z43 z44 z45 z46 z47 z48 z49 z50 z51 z52 z53 z54 z55 z56 Y rfl
          clear c0 f0 a0 o2 d0 hlb
          replace hset := own_below hset (Below.refl _ _).drew
          replace hBs := hBs.drew
          go_wp2_with fail
          exact ⟨_, rfl, rfl, n - (m + 1), by omega, by trivial, m + 1, rfl, rfl, hltm, hBs, hset⟩
      · obtain rfl : n = m := by omega
        have q0 : decide ((n : Int) < (n : Int)) = false := decide_eq_false (by omega)
        have hbr3 : BR W2 W.heap.size W.heap.size n (M.mvX l (M.mvT l (os.map (·.xs)) i) s.xs (k + 1)) := by
          rw [HF2.out]
          refine BR.congr (f := M.mvY fk fk1 n) hbr2 (fun j hj => ?_)
          unfold M.mvY
          rw [if_pos hj]
        clear hbr2
        go_wp2_with fail
        exact ⟨_, rfl, rfl, s.xs.length - (k + 1), by omega, by trivial, k + 1, rfl, rfl, hltk, hB2, hbr3⟩
    · obtain rfl : k = s.xs.length := by omega
      have q0 : decide ((s.xs.length : Int) < (s.xs.length : Int)) = false := decide_eq_false (by omega)
      rw [← HMT.out] at hbr1
      have kF := HFR.out W1 hB1 (some ⟨W.heap.size, 0, none⟩) n (M.mvT l (os.map (·.xs)) (i + 1)) (Sl.of_own (by decide) hbr1)
      go_wp2_with fail
      clear o0
      refine kF.mono ?_
      rintro e w5 ⟨⟨r, rfl, hr⟩, hb5⟩
      clear kF
      have HR := Lib.hid hr
      have hbr5 := own_below hbr1 hb5
      have hB5 := after_ hB1 hb5
      clear hr hbr1 hb5
      cases r with
      | true =>
        have HI2 : Hid (∀ c, c < i + 1 → M.free ps l (M.mvT l (os.map (·.xs)) (c + 1))) := Lib.hid (fun c h => by
          by_cases e : c = i
          · subst e; exact HR.out.1 rfl
          · exact HI.out c (by omega))
        clear HI HR
        go_wp2_with fail
        exact ⟨_, rfl, rfl, os.length - (i + 1), by omega, by trivial, i + 1, rfl, rfl, hlt, hB5, hbr5, HI2⟩
      | false =>
        have HF : Hid (¬ ∀ c, c < os.length → M.free ps l (M.mvT l (os.map (·.xs)) (c + 1))) := Lib.hid (fun h => by
          have h2 := HR.out.2 (h i hlt)
          cases h2)
        clear HI HR
        go_wp2_with fail
        go_ret
        exact ⟨⟨false, rfl, ⟨fun h => (by cases h), fun h => absurd h HF.out⟩⟩, hB5⟩
  · obtain rfl : i = os.length := by omega
    have q0 : decide ((os.length : Int) < (os.length : Int)) = false := decide_eq_false (by omega)
    go_wp2_with fail
    go_ret
    exact ⟨⟨true, rfl, ⟨fun _ => HI.out, fun _ => rfl⟩⟩, hB⟩
end Go.Proofs.YtceobfigfmnacaaDoor
end

section
namespace Go.Proofs.YtceobfigfmnacaaDoor
open Go Go.RowKit
set_option maxRecDepth 100000
theorem M.grps_w {ps : List P5} {l : List Mv} (hok : mvsOk l) (hi : Ints ps l) : ∀ s ∈ grps ps l, ∀ x ∈ s, W64 x := fun s hs x hx => by
  have hR := rows_ok (ps := ps) hok.1
  unfold grps at hs
  obtain ⟨v, hv, rfl⟩ := List.mem_map.1 hs
  rw [sts_eq] at hx
  obtain ⟨u, hu, rfl⟩ := List.mem_map.1 hx
  unfold stv
  split
  · rename_i m hm
    exact (hi.l m (List.mem_of_getElem? hm)).1
  · unfold W64; omega
end Go.Proofs.YtceobfigfmnacaaDoor
end

section
namespace Go.Proofs.YtceobfigfmnacaaDoor
open Go Go.RowKit
set_option maxRecDepth 100000
set_option maxHeartbeats 32000000 in
theorem holds_reg9 {Q : Exit → Act → World → Prop} {cd : Code} {dl : List Deferred} {Z0 Z2 Z3 Z4 Z5 Z6 Z7 Z8 Z9 Za Zb Zc Zd Ze Zf Zg Zh Zi Zj Zk Zl Zm Zn Zo Zp Zq Zr Zs Zt Zu Zv Zw Zx Zy Zz Z10 Z11 Z12 Z13 Z14 Z15 Z16 Z17 Z18 Z19 Z1a Z1b Z1c Z1d Z1e Z1f Z1g Z1h Z1i Z1j Z1k Z1l Z1m Z1n Z1o Z1p Z1q Z1r Z1s Z1t Z1u Z1v Z1w Z1x Z1y Z1z Z20 Z21 Z22 Z23 Z24 Z25 Z26 Z27 Z28 Z29 Z2a Z2b Z2c Z2d Z2e Z2f Z2g Z2h Z2i Z2j Z2k Z2l Z2m Z2n Z2o Z2p Z2q Z2r Z2s Z2t Z2u Z2v Z2w Z2x Z2y Z2z Z30 Z31 Z32 Z33 Z34 Z35 Z36 Z37 Z38 Z39 Z3a Z3b Z3c Z3d Z3e Z3f Z3g Z3h Z3i Z3j Z3k Z3l Z3m Z3n Z3o Z3p Z3q Z3r Z3s Z3t Z3u Z3v Z3w Z3x Z3y Z3z Z40 Z41 Z42 Z43 Z44 Z45 Z46 Z47 Z48 Z49 Z4a Z4b Z4c Z4d Z4e Z4f Z4g Z4h Z4i Z4j Z4k Z4l Z4m Z4n Z4o Z4p Z4q Z4r Z4s Z4t Z4u Z4v Z4w Z4x Z4y Z4z Z50 Z51 Z52 Z53 Z54 Z55 Z56 Z57 Z58 Z59 Z5a Z5b Z5c Z5d Z5e Z5f Z5g Z5h Z5i Z5j Z5k Z5l : Value} {LA : Option Addr} {n lc : Nat} {w : World} (hn : n ≤ 1000000) (hcd : (Tryd.f6.body.bind (regionOf 9)) = some cd)
    (hQ : ∀ (y83 y84 y85 y86 y87 y88 : Value) (wo : World) (ga gb : Nat), BR wo w.heap.size ga n (fun _ => false) → BR wo w.heap.size gb n (fun _ => false) → ga ≠ gb → Below w.heap.size w wo → Q .normal ⟨#[Z0,.slice LA n lc,Z2,Z3,Z4,Z5,Z6,Z7,Z8,Z9,Za,.slice (some ⟨ga, 0, none⟩) n n,.slice (some ⟨gb, 0, none⟩) n n,Zd,Ze,Zf,Zg,Zh,Zi,Zj,Zk,Zl,Zm,Zn,Zo,Zp,Zq,Zr,Zs,Zt,Zu,Zv,Zw,Zx,Zy,Zz,Z10,Z11,Z12,Z13,Z14,Z15,Z16,Z17,Z18,Z19,Z1a,Z1b,Z1c,Z1d,Z1e,Z1f,Z1g,Z1h,Z1i,Z1j,Z1k,Z1l,Z1m,Z1n,Z1o,Z1p,Z1q,Z1r,Z1s,Z1t,Z1u,Z1v,Z1w,Z1x,Z1y,Z1z,Z20,Z21,Z22,Z23,Z24,Z25,Z26,Z27,Z28,Z29,Z2a,y83,y84,y85,y86,y87,y88,Z2h,Z2i,Z2j,Z2k,Z2l,Z2m,Z2n,Z2o,Z2p,Z2q,Z2r,Z2s,Z2t,Z2u,Z2v,Z2w,Z2x,Z2y,Z2z,Z30,Z31,Z32,Z33,Z34,Z35,Z36,Z37,Z38,Z39,Z3a,Z3b,Z3c,Z3d,Z3e,Z3f,Z3g,Z3h,Z3i,Z3j,Z3k,Z3l,Z3m,Z3n,Z3o,Z3p,Z3q,Z3r,Z3s,Z3t,Z3u,Z3v,Z3w,Z3x,Z3y,Z3z,Z40,Z41,Z42,Z43,Z44,Z45,Z46,Z47,Z48,Z49,Z4a,Z4b,Z4c,Z4d,Z4e,Z4f,Z4g,Z4h,Z4i,Z4j,Z4k,Z4l,Z4m,Z4n,Z4o,Z4p,Z4q,Z4r,Z4s,Z4t,Z4u,Z4v,Z4w,Z4x,Z4y,Z4z,Z50,Z51,Z52,Z53,Z54,Z55,Z56,Z57,Z58,Z59,Z5a,Z5b,Z5c,Z5d,Z5e,Z5f,Z5g,Z5h,Z5i,Z5j,Z5k,Z5l], dl⟩ wo) :
    cd.wp Tryd.prog Q ⟨#[Z0,.slice LA n lc,Z2,Z3,Z4,Z5,Z6,Z7,Z8,Z9,Za,Zb,Zc,Zd,Ze,Zf,Zg,Zh,Zi,Zj,Zk,Zl,Zm,Zn,Zo,Zp,Zq,Zr,Zs,Zt,Zu,Zv,Zw,Zx,Zy,Zz,Z10,Z11,Z12,Z13,Z14,Z15,Z16,Z17,Z18,Z19,Z1a,Z1b,Z1c,Z1d,Z1e,Z1f,Z1g,Z1h,Z1i,Z1j,Z1k,Z1l,Z1m,Z1n,Z1o,Z1p,Z1q,Z1r,Z1s,Z1t,Z1u,Z1v,Z1w,Z1x,Z1y,Z1z,Z20,Z21,Z22,Z23,Z24,Z25,Z26,Z27,Z28,Z29,Z2a,Z2b,Z2c,Z2d,Z2e,Z2f,Z2g,Z2h,Z2i,Z2j,Z2k,Z2l,Z2m,Z2n,Z2o,Z2p,Z2q,Z2r,Z2s,Z2t,Z2u,Z2v,Z2w,Z2x,Z2y,Z2z,Z30,Z31,Z32,Z33,Z34,Z35,Z36,Z37,Z38,Z39,Z3a,Z3b,Z3c,Z3d,Z3e,Z3f,Z3g,Z3h,Z3i,Z3j,Z3k,Z3l,Z3m,Z3n,Z3o,Z3p,Z3q,Z3r,Z3s,Z3t,Z3u,Z3v,Z3w,Z3x,Z3y,Z3z,Z40,Z41,Z42,Z43,Z44,Z45,Z46,Z47,Z48,Z49,Z4a,Z4b,Z4c,Z4d,Z4e,Z4f,Z4g,Z4h,Z4i,Z4j,Z4k,Z4l,Z4m,Z4n,Z4o,Z4p,Z4q,Z4r,Z4s,Z4t,Z4u,Z4v,Z4w,Z4x,Z4y,Z4z,Z50,Z51,Z52,Z53,Z54,Z55,Z56,Z57,Z58,Z59,Z5a,Z5b,Z5c,Z5d,Z5e,Z5f,Z5g,Z5h,Z5i,Z5j,Z5k,Z5l], dl⟩ w := by
  rw [show (Tryd.f6.body.bind (regionOf 9)) = some (Code.region 9 _ true) from rfl] at hcd
  obtain rfl := Option.some.inj hcd
  clear hcd
  dsimp only at hQ ⊢
  have HQ := Lib.hid hQ
  clear hQ
  obtain ⟨ib, hib, hzb0, hzb1, hzb2⟩ := info_parts blInfo
  have Hib := Lib.hid hib; have Hzb0 := Lib.hid hzb0; have Hzb1 := Lib.hid hzb1; have Hzb2 := Lib.hid hzb2
  clear hib hzb0 hzb1 hzb2
  obtain ⟨u1, hr1, hownu1, hgu1⟩ := run_make_full (P := Tryd.prog) w.drew w.heap.size 54 4 ib _ 1 Tryd.underlying54 Hib.out Hzb0.out Hzb1.out .i64 .i64 n (by rw [Hzb2.out]; omega) (by unfold maxLen; omega) (Nat.le_refl _)
  obtain ⟨u2, hr2, hownu2, hgu2⟩ := run_make_full (P := Tryd.prog) u1 w.heap.size 54 4 ib _ 1 Tryd.underlying54 Hib.out Hzb0.out Hzb1.out .i64 .i64 n (by rw [Hzb2.out]; omega) (by unfold maxLen; omega) (hgu1.size)
  have k1 := World.ownsRow.kept hownu1 hgu2 (.inr (by simp [Value.ownBlock]))
  have lt1 := (own_lt hownu1).2
  have em := made_flat (cell := blc) (size := 1) (x0 := false) (by decide) (Value.bool false).cells rfl n
  rw [em, fnl_rep] at k1 hownu2
  have hB : Below w.heap.size w u2 := ((Below.refl w.heap.size w).drew.grown hgu1 (Nat.le_refl _) (by simp)).grown hgu2 hgu1.size (by simp)
  have K1 := Lib.hid k1; have K2 := Lib.hid hownu2; have HB := Lib.hid hB; have HLT := Lib.hid lt1
  clear k1 hownu2 hB lt1 hownu1 hgu1 hgu2 em hn
  refine wp_region_noPanic ?_
  go_region
  · exact NoPanic.normal (HQ.out _ _ _ _ _ _ _ w.heap.size u1.heap.size K1.out K2.out (by have : w.heap.size < u1.heap.size := HLT.out; omega) HB.out)
  · exact NoPanic.normal (HQ.out _ _ _ _ _ _ _ u1.heap.size w.heap.size K2.out K1.out (by have : w.heap.size < u1.heap.size := HLT.out; omega) HB.out)
end Go.Proofs.YtceobfigfmnacaaDoor
end

section
namespace Go.Proofs.YtceobfigfmnacaaDoor
open Go Go.RowKit Go.Maps
set_option maxRecDepth 100000
structure AtD (D : DataW Unit) (os : List (Nat × Int)) : Prop where
  tidy : Tidy D
  hit : ∀ p ∈ os, Maps.has D (.int .i64 p.2) = true ∧ ∀ z, D.atKey (.int .i64 p.2) z = .lit (.int .i64 (p.1 : Nat))
theorem AtD.start : AtD (.map []) [] := ⟨tidy_empty, fun p hp => by cases hp⟩
theorem AtD.put {D : DataW Unit} {os : List (Nat × Int)} (h : AtD D os) (i : Nat) (st : Int) (hno : st ∉ os.map (·.2)) : AtD (D.put (.int .i64 st) (.lit (.int .i64 i))) (os ++ [(i, st)]) := by
  refine ⟨h.tidy.put (by simp [WideAt.IsKeyLit]) _, fun p hp => ?_⟩
  rcases List.mem_append.1 hp with hp | hp
  · have hne : (Lit.int .i64 p.2) ≠ .int .i64 st := fun e => by
      injection e with _ e
      exact hno (e ▸ List.mem_map.2 ⟨p, hp, rfl⟩)
    obtain ⟨h1, h2⟩ := h.hit p hp
    exact ⟨(has_put_other hne _).trans h1, fun z => (atKey_put_other hne _ _).trans (h2 z)⟩
  · obtain rfl := List.mem_singleton.1 hp
    exact ⟨has_put_same h.tidy.isMap (by simp [WideAt.IsKeyLit]) _, fun z => atKey_put_same h.tidy.isMap (by simp [WideAt.IsKeyLit]) _ _⟩
namespace M
theorem flatO_app : ∀ (a b : List (List Int)) (k : Nat), flatO k (a ++ b) = flatO k a ++ flatO (k + a.length) b
  | [], b, k => rfl
  | s :: a, b, k => by
    show s.map (fun st => (k, st)) ++ flatO (k + 1) (a ++ b) = (s.map (fun st => (k, st)) ++ flatO (k + 1) a) ++ flatO (k + (s :: a).length) b
    rw [flatO_app a b (k + 1), List.append_assoc, List.length_cons, show k + 1 + a.length = k + (a.length + 1) by omega]
theorem flatO_take {order : List (List Int)} {i : Nat} (h : i < order.length) : flatO 0 (order.take (i + 1)) = flatO 0 (order.take i) ++ order[i].map (fun st => (i, st)) := by
  rw [List.take_succ_eq_append_getElem h, flatO_app]
  congr 1
  rw [List.length_take, Nat.min_eq_left (by omega), Nat.zero_add]
  unfold flatO
  unfold flatO
  rw [List.append_nil]
theorem flat_new {order : List (List Int)} (hn : ((flatO 0 order).map (·.2)).Nodup) {i k : Nat} (h : i < order.length) (hk : k < order[i].length) : order[i][k] ∉ (flatO 0 (order.take i) ++ (order[i].take k).map (fun st => (i, st))).map (·.2) := by
  have e : flatO 0 order = (flatO 0 (order.take i) ++ (order[i].take k).map (fun st => (i, st))) ++ ((i, order[i][k]) :: ((order[i].drop (k + 1)).map (fun st => (i, st)) ++ flatO (i + 1) (order.drop (i + 1)))) := by
    have e0 : flatO 0 order = flatO 0 (order.take i) ++ (order[i].map (fun st => (i, st)) ++ flatO (i + 1) (order.drop (i + 1))) := by
      conv => lhs; rw [← List.take_append_drop i order, flatO_app, List.length_take, Nat.min_eq_left (by omega), Nat.zero_add, flatO_drop h]
    have e1 : order[i].map (fun st => (i, st)) = (order[i].take k).map (fun st => (i, st)) ++ (i, order[i][k]) :: (order[i].drop (k + 1)).map (fun st => (i, st)) := by
      rw [← List.map_cons (f := fun st => (i, st)), ← List.map_append, ← List.drop_eq_getElem_cons hk, List.take_append_drop]
    rw [e0, e1]
    simp only [List.append_assoc, List.cons_append]
  rw [e, List.map_append, List.nodup_append] at hn
  intro hm
  exact hn.2.2 _ hm _ (by simp) rfl
end M
set_option maxHeartbeats 32000000 in
theorem holds_reg40 {Q : Exit → Act → World → Prop} {cd : Code} {dl : List Deferred} {Z0 Z1 Z2 Z3 Z4 Z5 Z6 Z8 Z9 Za Zb Zc Zd Ze Zf Zh Zi Zl Zm Zn Zo Zp Zq Zr Zs Zt Zu Zv Zw Zx Zy Zz Z10 Z11 Z12 Z13 Z14 Z15 Z16 Z17 Z18 Z19 Z1a Z1b Z1c Z1d Z1e Z1f Z1g Z1h Z1i Z1j Z1k Z1l Z1m Z1n Z1o Z1p Z1q Z1r Z1s Z1t Z1u Z1v Z1w Z1x Z1y Z1z Z20 Z21 Z22 Z23 Z24 Z25 Z26 Z27 Z28 Z29 Z2a Z2b Z2c Z2d Z2e Z2f Z2g Z2h Z2i Z2j Z2k Z2l Z2m Z2n Z2o Z2p Z2q Z2r Z2s Z2t Z2u Z2v Z2w Z2x Z2y Z2z Z30 Z31 Z32 Z33 Z34 Z35 Z36 Z37 Z38 Z39 Z3a Z3b Z3c Z3d Z3e Z3f Z3g Z3h Z3i Z3j Z3k Z3l Z3m Z3n Z3o Z3p Z3q Z3r Z3s Z3t Z3u Z3v Z3w Z3x Z3y Z3z Z40 Z41 Z42 Z43 Z44 Z45 Z46 Z47 Z48 Z49 Z4a Z4b Z4c Z4d Z4e Z4f Z4g Z4h Z4i Z4j Z4k Z4l Z4m Z4n Z4o Z4p Z4q Z4r Z4s Z4t Z4u Z4v Z4w Z4x Z4y Z4z Z50 Z51 Z52 Z53 Z54 Z55 Z56 Z57 Z58 Z59 Z5a Z5b Z5c Z5d Z5e Z5f Z5g Z5h Z5i Z5j Z5k Z5l : Value} {lg ls : Addr} {ng gc nk ck i k bm : Nat} {w : World} {sx s0 c : Int} (x0 : (0 : Int) ≤ (i : Int)) (x1 : (i : Int) < (ng : Int)) (x2 : (0 : Int) ≤ (k : Int)) (x3 : (k : Int) < (nk : Int)) (x4 : (0 : Int) < (nk : Int)) (a0 : w.cell? (lg.add i) = some (.slice (some ls) nk ck)) (b0 : w.cell? (ls.add k) = some (.int .i64 sx)) (b1 : w.cell? ls = some (.int .i64 s0)) (h1 : (Instr.lookup 56 (.map (some bm)) (.int .i64 sx) false).run Tryd.prog w.drew = .ok (.int .i64 c) w.drew) (h2 : (Instr.lookup 56 (.map (some bm)) (.int .i64 s0) false).run Tryd.prog w.drew = .ok (.int .i64 c) w.drew) (hcd : (Tryd.f6.body.bind (regionOf 40)) = some cd)
    (hQ : ∀ (y183 y184 y185 y186 y187 y188 y189 y190 y191 y192 y193 y194 y195 y196 y197 y198 y199 : Value) (wo : World) , wo = w.drew → Q .normal ⟨#[Z0,Z1,Z2,Z3,Z4,Z5,Z6,.slice (some lg) ng gc,Z8,Z9,Za,Zb,Zc,Zd,Ze,Zf,.map (some bm),Zh,Zi,.int .i64 (i : Nat),.int .i64 (k : Nat),Zl,Zm,Zn,Zo,Zp,Zq,Zr,Zs,Zt,Zu,Zv,Zw,Zx,Zy,Zz,Z10,Z11,Z12,Z13,Z14,Z15,Z16,Z17,Z18,Z19,Z1a,Z1b,Z1c,Z1d,Z1e,Z1f,Z1g,Z1h,Z1i,Z1j,Z1k,Z1l,Z1m,Z1n,Z1o,Z1p,Z1q,Z1r,Z1s,Z1t,Z1u,Z1v,Z1w,Z1x,Z1y,Z1z,Z20,Z21,Z22,Z23,Z24,Z25,Z26,Z27,Z28,Z29,Z2a,Z2b,Z2c,Z2d,Z2e,Z2f,Z2g,Z2h,Z2i,Z2j,Z2k,Z2l,Z2m,Z2n,Z2o,Z2p,Z2q,Z2r,Z2s,Z2t,Z2u,Z2v,Z2w,Z2x,Z2y,Z2z,Z30,Z31,Z32,Z33,Z34,Z35,Z36,Z37,Z38,Z39,Z3a,Z3b,Z3c,Z3d,Z3e,Z3f,Z3g,Z3h,Z3i,Z3j,Z3k,Z3l,Z3m,Z3n,Z3o,Z3p,Z3q,Z3r,Z3s,Z3t,Z3u,Z3v,Z3w,Z3x,Z3y,Z3z,Z40,Z41,Z42,Z43,Z44,Z45,Z46,Z47,Z48,Z49,Z4a,Z4b,Z4c,Z4d,Z4e,Z4f,Z4g,Z4h,Z4i,Z4j,Z4k,Z4l,Z4m,Z4n,Z4o,Z4p,Z4q,Z4r,Z4s,Z4t,Z4u,Z4v,Z4w,Z4x,Z4y,Z4z,Z50,Z51,Z52,y183,y184,y185,y186,y187,y188,y189,y190,y191,y192,y193,y194,y195,y196,y197,y198,y199,.bool false,Z5l], dl⟩ wo) :
    cd.wp Tryd.prog Q ⟨#[Z0,Z1,Z2,Z3,Z4,Z5,Z6,.slice (some lg) ng gc,Z8,Z9,Za,Zb,Zc,Zd,Ze,Zf,.map (some bm),Zh,Zi,.int .i64 (i : Nat),.int .i64 (k : Nat),Zl,Zm,Zn,Zo,Zp,Zq,Zr,Zs,Zt,Zu,Zv,Zw,Zx,Zy,Zz,Z10,Z11,Z12,Z13,Z14,Z15,Z16,Z17,Z18,Z19,Z1a,Z1b,Z1c,Z1d,Z1e,Z1f,Z1g,Z1h,Z1i,Z1j,Z1k,Z1l,Z1m,Z1n,Z1o,Z1p,Z1q,Z1r,Z1s,Z1t,Z1u,Z1v,Z1w,Z1x,Z1y,Z1z,Z20,Z21,Z22,Z23,Z24,Z25,Z26,Z27,Z28,Z29,Z2a,Z2b,Z2c,Z2d,Z2e,Z2f,Z2g,Z2h,Z2i,Z2j,Z2k,Z2l,Z2m,Z2n,Z2o,Z2p,Z2q,Z2r,Z2s,Z2t,Z2u,Z2v,Z2w,Z2x,Z2y,Z2z,Z30,Z31,Z32,Z33,Z34,Z35,Z36,Z37,Z38,Z39,Z3a,Z3b,Z3c,Z3d,Z3e,Z3f,Z3g,Z3h,Z3i,Z3j,Z3k,Z3l,Z3m,Z3n,Z3o,Z3p,Z3q,Z3r,Z3s,Z3t,Z3u,Z3v,Z3w,Z3x,Z3y,Z3z,Z40,Z41,Z42,Z43,Z44,Z45,Z46,Z47,Z48,Z49,Z4a,Z4b,Z4c,Z4d,Z4e,Z4f,Z4g,Z4h,Z4i,Z4j,Z4k,Z4l,Z4m,Z4n,Z4o,Z4p,Z4q,Z4r,Z4s,Z4t,Z4u,Z4v,Z4w,Z4x,Z4y,Z4z,Z50,Z51,Z52,Z53,Z54,Z55,Z56,Z57,Z58,Z59,Z5a,Z5b,Z5c,Z5d,Z5e,Z5f,Z5g,Z5h,Z5i,Z5j,Z5k,Z5l], dl⟩ w := by
  rw [show (Tryd.f6.body.bind (regionOf 40)) = some (Code.region 40 _ true) from rfl] at hcd
  obtain rfl := Option.some.inj hcd
  clear hcd
  dsimp only at hQ ⊢
  have HQ := Lib.hid hQ
  clear hQ
  have q1 : (c != c) = false := by simp
  refine wp_region_noPanic ?_
  go_region
  all_goals exact NoPanic.normal (HQ.out _ _ _ _ _ _ _ _ _ _ _ _ _ _ _ _ _ _ rfl)
end Go.Proofs.YtceobfigfmnacaaDoor
end
