/- A bundle of texts: GhCp. -/
import Derived.Test.YtjoomgojnpcbeaaDoorI10
import Derived.Lib.SliceRun
section
namespace Go.Proofs.YtjoomgojnpcbeaaDoor
open Go Go.RowKit
set_option maxRecDepth 100000
set_option maxHeartbeats 8000000 in
theorem ghClone_ok (base g bg n cp : Nat) (R : List Nat) (edges : Int) (w : World) (h : GO w base g bg n cp R edges) (hn : n ≤ 512) :
    Calls Tryd.prog 63 #[.slice (some ⟨g, 0, none⟩) n cp] w fun e w' => ∃ v', e = .returned v' ∧ w'.ownsRow w.heap.size 63 8 v' n (flat 8 bscell R) ∧ v' ≠ .slice none 0 0 ∧ Below w.heap.size w w' := by
  obtain ⟨i0, hi, hz0, hz1, hz2⟩ := info_parts bsInfo
  have q22 : ∀ (w : World) (a : Option Addr) (n c n' c' : Nat), (binOp .eql 70 (.slice a n c) (.slice none n' c')).run Tryd.prog w = .ok (.bool a.isNone) w := fun w a n c n' c' => Lib.run_eql_slice_nil w _ _ a n c n' c' Tryd.underlying70
  have hlen := h.len
  have hcs := Lib.hid (fun j u => h.own.cells (g := g) rfl j u)
  have hfl : (flat 8 bscell R).length = n * 8 := by rw [flat_length, hlen]
  have hone : ∀ u ∈ flat 8 bscell R, u.oneCell' = true := fun u hu => by
    unfold flat at hu
    obtain ⟨x, _, hx⟩ := List.mem_flatMap.1 hu
    obtain ⟨j, _, rfl⟩ := List.mem_map.1 hx
    exact bs_one x j
  clear h hlen
  generalize flat 8 bscell R = news at *
  go_enter Tryd.func63, Tryd.ntmps63
  go_wp2_with (at_builtin; go_loud (refine wpList_append_own _ rfl _ _ 70 rfl w.heap.size 63 i0 _ 8 64 Tryd.underlying70 hi hz0 hz1 hz2 rfl (by decide) _ _ _ rfl (World.ownsRow_made w #[] 0 (Nat.le_refl _) (Nat.zero_le _) rfl) ⟨g, 0, none⟩ n cp news rfl hfl ?qc2 hone (by unfold maxLen; omega) (by omega) (by simp) ?_))
  case qc2 =>
    intro j u hj
    rw [Addr.add_lit]
    exact Lib.cell?_alloc_some _ (by rw [Nat.zero_add]; have := hcs.out j u hj; rwa [Addr.add_lit, Nat.zero_add] at this)
  intro v' w1 hown hgrow hnil
  go_wp2
  go_ret
  refine ⟨v', rfl, by simpa using hown, ?_, ?_⟩
  · exact hnil
  · exact ((Below.refl _ w).alloc (Nat.le_refl _) _).grown hgrow (by simp) (by intro k hk; simp [Value.ownBlock] at hk; omega)
theorem own_some {w : World} {base : Nat} {e : TypeId} {size n : Nat} {v : Value} {xs : List Value} (h : w.ownsRow base e size v n xs) (hn : v ≠ .slice none 0 0) : ∃ g cp, v = .slice (some ⟨g, 0, none⟩) n cp := by
  rcases h.2 with ⟨h0, _⟩ | ⟨g, cap, cur, hv, _⟩
  · exact absurd h0 hn
  · exact ⟨g, cap, hv⟩
set_option maxHeartbeats 8000000 in
theorem ngCopy_ok (pv : Value) (w : World) (h : NG w pv) : Calls Tryd.prog 39 #[pv] w fun e w' => e = .returned (.pointer none) ∧ w = w' := by
  have kV := ngValid_ok pv w h
  go_enter Tryd.func39, Tryd.ntmps39
  go_wp2_with fail
  refine kV.mono ?_
  rintro e w1 ⟨rfl, rfl⟩
  go_wp2_with fail
  go_ret
  exact ⟨rfl, rfl⟩
set_option maxHeartbeats 16000000 in
theorem ghCopy_ok (base g bg n cp : Nat) (R : List Nat) (edges : Int) (w : World) (h : GO w base g bg n cp R edges) (hn : n ≤ 512) :
    Calls Tryd.prog 39 #[gp bg] w fun e w' => ∃ bg' g' cp', e = .returned (gp bg') ∧ w.heap.size ≤ g' ∧ w.heap.size ≤ bg' ∧ Box w' bg' #[.bool true, .slice (some ⟨g', 0, none⟩) n cp', .int .i64 edges] 72 ∧ w'.ownsRow w.heap.size 63 8 (.slice (some ⟨g', 0, none⟩) n cp') n (flat 8 bscell R) ∧ g' < bg' ∧ Below w.heap.size w w' := by
  have kV := ghValid_ok bg _ cp R edges w h.gg
  obtain ⟨e0, e1, e2⟩ := h.box.c3
  have HK : Hid (∀ w2, Below w.drew.heap.size w.drew w2 → GO w2 base g bg n cp R edges) := Lib.hid (fun w2 hb2 => (h.next (Below.refl _ _).drew).next hb2)
  go_enter Tryd.func39, Tryd.ntmps39
  go_wp2_with fail
  refine kV.mono ?_
  rintro e w1 ⟨rfl, rfl⟩
  go_wp2_with fail
  have h1d : GO w.drew base g bg n cp R edges := h.next (Below.refl _ _).drew
  clear kV
  go_region_law (go_simp; go_at_call 63; refine (ghClone_ok base g bg n cp R edges _ h1d hn).mono ?_; rintro e w2 ⟨v', rfl, hown, hnn, hb2⟩; obtain ⟨g', cp', rfl⟩ := own_some hown hnn; obtain ⟨t0, t1, t2⟩ := (HK.out _ hb2).box.c3)
  all_goals
    obtain ⟨X, HX, bx, hbX, -⟩ := boxes1 w2 #[.bool true, .slice (some ⟨g', 0, none⟩) n cp', .int .i64 edges] 72
    have hg1 := (own_lt hown).1
    have hg2 := (own_lt hown).2
    have hsz : w.heap.size ≤ w2.heap.size := hb2.size
    go_wp2_with fail
    go_simp
    rw [HX.out]
    go_ret
    exact ⟨w2.heap.size, rfl, g', hg1, hsz, cp', bx, own_below hown hbX, hg2, (((Below.refl _ _).drew).trans hb2).trans (hbX.mono hsz)⟩
end Go.Proofs.YtjoomgojnpcbeaaDoor
end
