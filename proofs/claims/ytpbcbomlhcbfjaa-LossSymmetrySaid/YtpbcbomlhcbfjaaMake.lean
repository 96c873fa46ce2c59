/- The contract of the reference's Make at numbers from 0 on. -/
import Derived.Test.YtpbcbomlhcbfjaaRefA
import Derived.Deep.RegionLaw
namespace Go.Proofs.Ytpbcbomlhcbfjaa
open Go Go.RowKit

theorem M.trm_lb' (n : Nat) : M.trm (M.lb n) = M.lb n := by
  rw [M.trm_lb (M.lb_lt n), M.lb_val]
theorem M.lb_rev (n : Nat) : (M.lb n).reverse = M.byt n := by rw [← M.lb_byt, List.reverse_reverse]

/-- wpList_push2 as a step of a region that draws its order. -/
theorem step_push {α : Type} {P : Program} {size : Nat} {cell : α → Nat → Value} {w w0 : World} {ops : Array Oper} {o : Oper} {a : Act} {K : Act → World → Prop} {Q : Exit → Act → World → Prop} {E : Prop} (hgd : o.guard = none) (s x : Operand) (t : TypeId)
    (ho : o.op = .call { callee := .builtin .append, args := #[s, x], argTypes := #[t, t] })
    (base B : Nat) (e : TypeId) (i : TypeInfo) (z : Value) (bytes : Nat) (ht : P.underlying t = some (.slice e)) (hi : P.info? e = some i) (hz : i.zero = some z)
    (hsize : i.size = size) (hby : i.bytes = bytes) (hzs : z.cells.size = size) (hsz : 0 < size)
    (v : Value) (n : Nat) (xs : List α) (y : α) (hs : a.eval s = v) (hown : w.ownsRow base e size v n (flat size cell xs))
    (cs : Array Value) (te : TypeId) (hcs : cs.toList = (List.range size).map (cell y)) (c : Nat) (hx : a.eval x = .slice (some ⟨w.heap.size, 0, none⟩) 1 c) (h1 : ∀ j, (cell y j).oneCell' = true)
    (h63 : n + 1 ≤ maxLen) (hbytes : (n + 1) * bytes ≤ 140737488355328) (hbase : base ≤ w.heap.size) (hBb : B ≤ base) (hB : Below B w0 w)
    (h : ∀ v' w', w'.ownsRow base e size v' (n + 1) (flat size cell (xs ++ [y])) → Below B w0 w' → w.grownBy w' v.ownBlock → (∀ b, v'.ownBlock = some b → v.ownBlock = some b ∨ w.heap.size ≤ b) → K (a.put o.dst v') w') :
    if Region.wanted o (yielded ops a.tmps) = true then Oper.wp P o a (w.alloc (.cells cs te)) K Q else E := by
  have hw : Region.wanted o (yielded ops a.tmps) = true := by simp [Region.wanted, hgd]
  rw [if_pos hw]
  obtain ⟨v', w', hrun, h2, h3, _, h5⟩ := run_append_own_at (P := P) (w.alloc (.cells cs te)) base t o.type e i z size bytes ht hi hz hsize hby hzs hsz v n (flat size cell xs) (hown.alloc _) ⟨w.heap.size, 0, none⟩ 1 c cs.toList (by rw [hcs]; simp) (by
    intro j u hj
    have hb : (w.alloc (.cells cs te)).heap[w.heap.size]? = some (.cells cs te (0, 0)) := heap_alloc_new w _
    have e1 : (⟨w.heap.size, 0, none⟩ : Addr).add j = ⟨w.heap.size, j, none⟩ := by unfold Addr.add; split <;> simp_all
    rw [e1, cell_of_row _ _ _ _ _ _ hb]
    simpa using hj) (by
    intro u hu
    rw [hcs] at hu
    obtain ⟨j, _, rfl⟩ := List.mem_map.1 hu
    exact h1 j) h63 hbytes (by simp; omega)
  unfold Oper.wp execOp
  simp only [ho, resolve, invoke, builtin, Sem.run_bind, Sem.run_pure, Result.andThen_ok, List.map_toArray, List.map_cons, List.map_nil, hs, hx, hrun]
  have hg' := grown_alloc h3
  refine h v' w' (by rw [flat_append, flat_one, ← hcs]; exact h2) (hB.grown hg' (by omega) fun k hk => ?_) hg' (fun b hb => ?_)
  · have := (hown.lt k hk).1
    omega
  · rcases h5 with h5 | h5
    · exact .inl (h5 ▸ hb)
    · rw [h5] at hb
      right
      have : (w.alloc (.cells cs te)).heap.size = b := by simpa using hb
      simp at this; omega

set_option maxHeartbeats 4000000 in
theorem make_ok (A : Option Addr) (c : Nat) (n : Nat) (w : World) (ha : Sl 1 bc w w.heap.size A (M.lb n)) (hc : (M.lb n).length ≤ c) (hcm : c ≤ 9223372036854775807) (hl : (M.lb n).length ≤ 1000) :
    Calls Try.prog 41 #[.bool false, .slice A (M.lb n).length c] w (RetI1 w n) := by
  have hB0 := (Below.refl w.heap.size w).alloc (Nat.le_refl _) (.cells #[.bool false, .slice none 0 0] 48)
  have ha0 := (ha.alloc (Nat.le_refl _) (.cells #[.bool false, .slice none 0 0] 48))
  have HT := Lib.hid (M.trm_lb' n)
  have HR := Lib.hid (M.lb_rev n)
  obtain ⟨i0, hi, hz0, hz1, hz2⟩ := info_parts u8Info
  have Hi := Lib.hid hi; have Hz0 := Lib.hid hz0; have Hz1 := Lib.hid hz1; have Hz2 := Lib.hid hz2
  clear hi hz0 hz1 hz2
  go_enter Try.func41, Try.ntmps41
  go_wp2_with fail
  refine (refTrim_any A c _ (M.lb n) _ ha0 hc (by omega)).mono ?_
  rintro e w1 ⟨rfl, h2, rfl⟩
  rw [HT.out]
  clear h2
  have hB1 := hB0.alloc hB0.size (.cells #[.bool false, .slice none 0 0] 48)
  have x0 : Hid (((w.alloc (.cells #[.bool false, .slice none 0 0] 48)).alloc (.cells #[.bool false, .slice none 0 0] 48)).heap[w.heap.size]? = some (.cells #[.bool false, .slice none 0 0] 48 (0, 0))) := Lib.hid ((Below.heap_alloc _ _ _ (by simp)).trans (heap_alloc_new w _))
  have x1 : Hid (((w.alloc (.cells #[.bool false, .slice none 0 0] 48)).alloc (.cells #[.bool false, .slice none 0 0] 48)).heap[w.heap.size + 1]? = some (.cells #[.bool false, .slice none 0 0] 48 (0, 0))) := Lib.hid (by
    have := heap_alloc_new (w.alloc (.cells #[.bool false, .slice none 0 0] 48)) (.cells #[.bool false, .slice none 0 0] 48)
    simpa using this)
  have s0 : ((w.alloc (.cells #[.bool false, .slice none 0 0] 48)).alloc (.cells #[.bool false, .slice none 0 0] 48)).heap.size = w.heap.size + 2 := by simp
  have S0 := Lib.hid s0
  clear s0
  go_wp2_with fail
  generalize (w.alloc (.cells #[.bool false, .slice none 0 0] 48)).alloc (.cells #[.bool false, .slice none 0 0] 48) = W at *
  generalize M.lb n = D at *
  go_loopw [6] (fun i wr => ∃ (k : Nat) (v : Value), k ≤ D.length ∧ i = .int .i64 ((D.length : Int) - 1 - k) ∧ Below w.heap.size w wr ∧ wr.ownsRow (w.heap.size + 2) 5 1 v k (flat 1 bc (D.reverse.take k)) ∧ w.heap.size + 2 ≤ wr.heap.size ∧ Hid (wr.heap[w.heap.size]? = some (.cells #[.bool false, .slice none 0 0] 48 (0, 0))) ∧ Hid (wr.heap[w.heap.size + 1]? = some (.cells #[.bool false, v] 48 (0, 0)))) (fun i _ => (intOf i + 1).toNat)
  case atStart => exact ⟨0, .slice none 0 0, Nat.zero_le _, by simp, hB1, own_nil _ _ _ _ _, by rw [S0.out]; exact Nat.le_refl _, x0, x1⟩
  case round =>
    obtain ⟨k, v, hk, rfl, hB, hown, hsz, X0, X1⟩ := hrel
    have c1 : wr.cell? ⟨w.heap.size + 1, 1, none⟩ = some v := by rw [cell_of_row _ _ _ _ _ _ X1.out]; rfl
    have c0 : wr.cell? ⟨w.heap.size + 1, 0, none⟩ = some (.bool false) := by rw [cell_of_row _ _ _ _ _ _ X1.out]; rfl
    obtain ⟨Av, cv, rfl, hSv⟩ := own_slice (by decide) hown
    have hlk : (D.reverse.take k).length = k := by simp; omega
    rw [hlk] at hown X1 c1
    by_cases hlt : k < D.length
    · obtain ⟨j, hj⟩ : ∃ j : Nat, D.length - 1 - k = j := ⟨_, rfl⟩
      have hjl : j < D.length := by omega
      have hji : (D.length : Int) - 1 - k = (j : Int) := by omega
      rw [hji]
      clear hji
      obtain ⟨ad, rfl, hab, da⟩ := ha.one_at (k := j) (by omega)
      rw [← hB.cell hab] at da
      simp only [bc] at da
      obtain ⟨y, hy⟩ : ∃ y, D[j] = y := ⟨_, rfl⟩
      rw [hy] at da
      have HTk : Hid (D.reverse.take (k + 1) = D.reverse.take k ++ [y]) := Lib.hid (by
        rw [List.take_succ_eq_append_getElem (by simpa using hlt), List.getElem_reverse]; simp only [hj, hy])
      clear hy hSv
      have HL : Hid ((D.reverse.take k ++ [y]).length = k + 1) := Lib.hid (by simp; omega)
      have Hj : Hid ((j : Int) - 1 = (D.length : Int) - 1 - ((k + 1 : Nat) : Int)) := Lib.hid (by omega)
      clear hj hlk
      go_wp2_with fail
      have hs1 : w.heap.size + 1 < wr.heap.size := by omega
      have hne : ∀ q, q < w.heap.size + 2 → some q ≠ (Value.slice Av k cv).ownBlock := fun q hq e => by have := (hown.lt q e.symm).1; omega
      go_region_law ((refine step_push (w := wr.drew) (w0 := w) (cell := bc) (y := y) rfl _ _ _ rfl (w.heap.size + 2) w.heap.size 5 i0 _ 1 Try.underlying46 Hi.out Hz0.out Hz1.out Hz2.out rfl (by decide) (.slice Av k cv) k (D.reverse.take k) (by simp [Act.eval]) hown.drew _ _ rfl _ (by simp [Act.eval]; rfl) (b_one _) (by unfold maxLen; omega) (by omega) hsz (by omega) hB.drew ?_; intro v' w' hown' hb' hg' hat'; obtain ⟨A', c', rfl, _⟩ := own_slice (by decide) hown'; rw [HL.out] at hown' ⊢; have Y0 := Lib.hid ((hg'.block w.heap.size (by show w.heap.size < wr.heap.size; omega) (hne _ (by omega))).trans X0.out); have Y1 := Lib.hid ((hg'.block (w.heap.size + 1) (by show w.heap.size + 1 < wr.heap.size; omega) (hne _ (by omega))).trans X1.out); have d1 : w'.cell? ⟨w.heap.size + 1, 1, none⟩ = some (.slice Av k cv) := (by rw [cell_of_row _ _ _ _ _ _ Y1.out]; rfl); have f1 : w'.frozen? ⟨w.heap.size + 1, 1, none⟩ = false := (frozen_of_row _ _ _ _ _ Y1.out)))
      all_goals
        have Z0 := Lib.hid ((heap_setCell_other w' ⟨w.heap.size + 1, 1, none⟩ w.heap.size (.slice A' (k + 1) c') (by show w.heap.size ≠ w.heap.size + 1; omega)).trans Y0.out)
        have Z1 := Lib.hid (heap_setCell_same w' (w.heap.size + 1) 1 _ _ (.slice A' (k + 1) c') Y1.out)
        have hB2 := hb'.setCell (p := ⟨w.heap.size + 1, 1, none⟩) (by show w.heap.size ≤ w.heap.size + 1; omega) (.slice A' (k + 1) c')
        have hO2 := ownsRow_setCell_below hown' (a := ⟨w.heap.size + 1, 1, none⟩) (by show w.heap.size + 1 < w.heap.size + 2; omega) (.slice A' (k + 1) c')
        have hs2 : w.heap.size + 2 ≤ (w'.setCell ⟨w.heap.size + 1, 1, none⟩ (.slice A' (k + 1) c')).heap.size := by rw [World.size_setCell]; have : wr.heap.size ≤ w'.heap.size := hg'.size; omega
        rw [← HTk.out] at hO2
        generalize w'.setCell ⟨w.heap.size + 1, 1, none⟩ (.slice A' (k + 1) c') = w2 at *
        go_wp2_with fail
        go_roundw
        case rel => exact ⟨k + 1, _, hlt, by rw [Hj.out], hB2, hO2, hs2, Z0, Z1⟩
        case measure => simp [intOf]
    · obtain rfl : k = D.length := by omega
      have hneg : (D.length : Int) - 1 - (D.length : Int) = -1 := by omega
      rw [hneg]
      have ed : D.reverse.take D.length = M.byt n := by rw [List.take_of_length_le (by simp), HR.out]
      have e0 : D.length = (M.byt n).length := by rw [← HR.out]; simp
      clear hneg
      rw [ed] at hSv hown
      have hne : Hid (∀ ad, Av = some ad → ad.block ≠ w.heap.size ∧ w.heap.size ≤ ad.block) := Lib.hid (fun ad h => by
        subst h
        rcases hown.2 with ⟨h1, _⟩ | ⟨g, cap, cur, h1, _, _⟩
        · cases h1
        · have h2 := hown.lt g (by rw [h1]; rfl)
          injection h1 with h3 _ _
          injection h3 with h3
          subst h3
          show g ≠ _ ∧ _ ≤ g
          omega)
      generalize hD : D.length = dl at *
      clear hown
      have b0 : wr.cell? ⟨w.heap.size, 0, none⟩ = some (.bool false) := by rw [cell_of_row _ _ _ _ _ _ X0.out]; rfl
      have b1 : wr.cell? ⟨w.heap.size, 1, none⟩ = some (.slice none 0 0) := by rw [cell_of_row _ _ _ _ _ _ X0.out]; rfl
      have g0 : wr.frozen? ⟨w.heap.size, 0, none⟩ = false := frozen_of_row _ _ _ _ _ X0.out
      have g1 : wr.frozen? ⟨w.heap.size, 1, none⟩ = false := frozen_of_row _ _ _ _ _ X0.out
      go_wp2_with fail
      refine bodyPost_ret (v := .agg #[.bool false, .slice Av (M.byt n).length cv]) ?_ rfl ?_
      · simp [results, Try.results41, go_sem, b0, b1, e0]
      · refine ⟨_, rfl, ⟨Av, cv, rfl, fun ad h => (hne.out ad h).2, ?_⟩, (hB.setCell (p := ⟨w.heap.size, 0, none⟩) (Nat.le_refl _) _).setCell (p := ⟨w.heap.size, 1, none⟩) (Nat.le_refl _) _⟩
        exact ((hSv.setFar (p := ⟨w.heap.size, 0, none⟩) (fun ad h => (hne.out ad h).1) _).setFar (p := ⟨w.heap.size, 1, none⟩) (fun ad h => (hne.out ad h).1) _).more (by simp)
end Go.Proofs.Ytpbcbomlhcbfjaa
