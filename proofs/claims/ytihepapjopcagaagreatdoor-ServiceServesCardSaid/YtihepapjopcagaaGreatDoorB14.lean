/- A bundle of texts: ShelfK, Sorted, Keys, Tot, Tot2. -/
import Derived.Shelf.SlIterI.Nil
import Derived.Shelf.SortM.Plain
import Derived.Shelf.SortM.SortNone
import Derived.Ground.GgzProg
import Derived.Ground.SlgmProg
import Derived.Test.YtihepapjopcagaaGreatDoorProg
import Derived.Test.YtihepapjopcagaaGreatDoorB02
import Derived.Test.YtihepapjopcagaaGreatDoorB12
import Derived.Maps.OwnOps
import Derived.DeepKeys4
import Derived.MapViews
import Derived.Carry
/- Contracts of the library laid at this seat by the kit's tools (lay-shelf, lay-plain). -/
section
namespace Go.Proofs.YtihepapjopcagaaGreatDoor
open Go.Shelf
def keysI_ren : Go.Shelf.Ren := ⟨fun | 7 => 48 | 10 => 70 | n => n, fun | 23 => 87 | 26 => 3 | 3 => 3 | 28 => 76 | 0 => 0 | 27 => 75 | 33 => 27 | 4 => 4 | n => n, fun | n => n⟩
theorem keysI : Go.Proofs.SlLaysZI.n7 Tryz.prog keysI_ren := {
  mixed := by kernel_rfl
  f7 := ⟨Tryz.f48.name, by decide, Tryz.func48.trans (congrArg some (by kernel_rfl))⟩
  f10 := ⟨Tryz.f70.name, by decide, Tryz.func70.trans (congrArg some (by kernel_rfl))⟩
  t0 := Tryz.underlying0
  a0 := Tryz.isAgg0
  z0 := Tryz.sizeOf0
  v0 := Tryz.zeroValue0
  t4 := Tryz.underlying4
  a4 := Tryz.isAgg4
  z4 := Tryz.sizeOf4
  v4 := Tryz.zeroValue4
  t23 := Tryz.underlying87
  a23 := Tryz.isAgg87
  z23 := Tryz.sizeOf87
  v23 := Tryz.zeroValue87
  t26 := Tryz.underlying3
  a26 := Tryz.isAgg3
  z26 := Tryz.sizeOf3
  v26 := Tryz.zeroValue3
  t27 := Tryz.underlying75
  a27 := Tryz.isAgg75
  z27 := Tryz.sizeOf75
  v27 := Tryz.zeroValue75
  t28 := Tryz.underlying76
  a28 := Tryz.isAgg76
  z28 := Tryz.sizeOf76
  v28 := Tryz.zeroValue76
  t33 := Tryz.underlying27
  a33 := Tryz.isAgg27
  z33 := Tryz.sizeOf27
  v33 := Tryz.zeroValue27 }
def sortedI_ren : Go.Shelf.Ren := ⟨fun | 6 => 47 | 8 => 38 | 9 => 69 | 11 => 57 | 13 => 91 | 12 => 90 | 23 => 117 | 24 => 118 | 14 => 108 | 15 => 109 | 16 => 110 | 17 => 111 | 18 => 112 | 19 => 113 | 20 => 114 | 21 => 115 | 22 => 116 | 25 => 137 | 26 => 138 | 27 => 139 | 28 => 140 | 29 => 141 | 30 => 142 | 31 => 150 | n => n, fun | 26 => 3 | 28 => 76 | 24 => 28 | 0 => 0 | 3 => 3 | 37 => 119 | 48 => 147 | 50 => 57 | 4 => 4 | 40 => 141 | 39 => 140 | 45 => 46 | 5 => 5 | 9 => 9 | 51 => 165 | 55 => 169 | 57 => 178 | 58 => 179 | 33 => 27 | n => n, fun | n => n⟩
theorem sortedI : Go.Proofs.SlLaysZI.n6 Tryz.prog sortedI_ren := {
  mixed := by kernel_rfl
  f6 := ⟨Tryz.f47.name, by decide, Tryz.func47.trans (congrArg some (by kernel_rfl))⟩
  f8 := ⟨Tryz.f38.name, by decide, Tryz.func38.trans (congrArg some (by kernel_rfl))⟩
  f11 := ⟨Tryz.f57.name, by decide, Tryz.func57.trans (congrArg some (by kernel_rfl))⟩
  t0 := Tryz.underlying0
  a0 := Tryz.isAgg0
  z0 := Tryz.sizeOf0
  v0 := Tryz.zeroValue0
  t24 := Tryz.underlying28
  a24 := Tryz.isAgg28
  z24 := Tryz.sizeOf28
  v24 := Tryz.zeroValue28
  t26 := Tryz.underlying3
  a26 := Tryz.isAgg3
  z26 := Tryz.sizeOf3
  v26 := Tryz.zeroValue3
  t28 := Tryz.underlying76
  a28 := Tryz.isAgg76
  z28 := Tryz.sizeOf76
  v28 := Tryz.zeroValue76
  i26 := by kernel_rfl }
def sortI_ren : Go.Shelf.Ren := ⟨fun | 5 => 69 | 8 => 91 | 7 => 90 | 19 => 117 | 20 => 118 | 10 => 108 | 11 => 109 | 12 => 110 | 13 => 111 | 14 => 112 | 15 => 113 | 16 => 114 | 17 => 115 | 18 => 116 | 30 => 137 | 31 => 138 | 32 => 139 | 33 => 140 | 34 => 141 | 35 => 142 | 40 => 150 | n => n, fun | 23 => 28 | 25 => 3 | 3 => 3 | 32 => 119 | 22 => 28 | 0 => 0 | 44 => 147 | 46 => 57 | 4 => 4 | 36 => 141 | 35 => 140 | 41 => 46 | 5 => 5 | 9 => 9 | 53 => 165 | 57 => 169 | 63 => 178 | 64 => 179 | n => n, fun | n => n⟩
theorem sortI : Go.Proofs.SlLaysM.n5 Tryz.prog sortI_ren := {
  mixed := by kernel_rfl
  f5 := ⟨Tryz.f69.name, by decide, Tryz.func69.trans (congrArg some (by kernel_rfl))⟩
  f7 := ⟨Tryz.f90.name, by decide, Tryz.func90.trans (congrArg some (by kernel_rfl))⟩
  f8 := Tryz.func91.trans (congrArg some (by kernel_rfl))
  f10 := ⟨Tryz.f108.name, by decide, Tryz.func108.trans (congrArg some (by kernel_rfl))⟩
  f11 := ⟨Tryz.f109.name, by decide, Tryz.func109.trans (congrArg some (by kernel_rfl))⟩
  f12 := ⟨Tryz.f110.name, by decide, Tryz.func110.trans (congrArg some (by kernel_rfl))⟩
  f13 := ⟨Tryz.f111.name, by decide, Tryz.func111.trans (congrArg some (by kernel_rfl))⟩
  f14 := ⟨Tryz.f112.name, by decide, Tryz.func112.trans (congrArg some (by kernel_rfl))⟩
  f15 := ⟨Tryz.f113.name, by decide, Tryz.func113.trans (congrArg some (by kernel_rfl))⟩
  f16 := ⟨Tryz.f114.name, by decide, Tryz.func114.trans (congrArg some (by kernel_rfl))⟩
  f17 := ⟨Tryz.f115.name, by decide, Tryz.func115.trans (congrArg some (by kernel_rfl))⟩
  f18 := ⟨Tryz.f116.name, by decide, Tryz.func116.trans (congrArg some (by kernel_rfl))⟩
  f19 := Tryz.func117.trans (congrArg some (by kernel_rfl))
  f20 := Tryz.func118.trans (congrArg some (by kernel_rfl))
  f30 := ⟨Tryz.f137.name, by decide, Tryz.func137.trans (congrArg some (by kernel_rfl))⟩
  f31 := Tryz.func138.trans (congrArg some (by kernel_rfl))
  f32 := Tryz.func139.trans (congrArg some (by kernel_rfl))
  f33 := ⟨Tryz.f140.name, by decide, Tryz.func140.trans (congrArg some (by kernel_rfl))⟩
  f34 := ⟨Tryz.f141.name, by decide, Tryz.func141.trans (congrArg some (by kernel_rfl))⟩
  f35 := ⟨Tryz.f142.name, by decide, Tryz.func142.trans (congrArg some (by kernel_rfl))⟩
  f40 := ⟨Tryz.f150.name, by decide, Tryz.func150.trans (congrArg some (by kernel_rfl))⟩
  t0 := Tryz.underlying0
  a0 := Tryz.isAgg0
  z0 := Tryz.sizeOf0
  v0 := Tryz.zeroValue0
  t3 := Tryz.underlying3
  a3 := Tryz.isAgg3
  z3 := Tryz.sizeOf3
  v3 := Tryz.zeroValue3
  t4 := Tryz.underlying4
  a4 := Tryz.isAgg4
  z4 := Tryz.sizeOf4
  v4 := Tryz.zeroValue4
  t5 := Tryz.underlying5
  a5 := Tryz.isAgg5
  z5 := Tryz.sizeOf5
  v5 := Tryz.zeroValue5
  t9 := Tryz.underlying9
  a9 := Tryz.isAgg9
  z9 := Tryz.sizeOf9
  v9 := Tryz.zeroValue9
  t22 := Tryz.underlying28
  a22 := Tryz.isAgg28
  z22 := Tryz.sizeOf28
  v22 := Tryz.zeroValue28
  t23 := Tryz.underlying28
  a23 := Tryz.isAgg28
  z23 := Tryz.sizeOf28
  v23 := Tryz.zeroValue28
  t25 := Tryz.underlying3
  a25 := Tryz.isAgg3
  z25 := Tryz.sizeOf3
  v25 := Tryz.zeroValue3
  t32 := Tryz.underlying119
  a32 := Tryz.isAgg119
  z32 := Tryz.sizeOf119
  v32 := Tryz.zeroValue119
  t35 := Tryz.underlying140
  a35 := Tryz.isAgg140
  z35 := Tryz.sizeOf140
  v35 := Tryz.zeroValue140
  t36 := Tryz.underlying141
  a36 := Tryz.isAgg141
  z36 := Tryz.sizeOf141
  v36 := Tryz.zeroValue141
  t41 := Tryz.underlying46
  a41 := Tryz.isAgg46
  z41 := Tryz.sizeOf46
  v41 := Tryz.zeroValue46
  t44 := Tryz.underlying147
  a44 := Tryz.isAgg147
  z44 := Tryz.sizeOf147
  v44 := Tryz.zeroValue147
  t46 := Tryz.underlying57
  a46 := Tryz.isAgg57
  z46 := Tryz.sizeOf57
  v46 := Tryz.zeroValue57
  t53 := Tryz.underlying165
  a53 := Tryz.isAgg165
  z53 := Tryz.sizeOf165
  v53 := Tryz.zeroValue165
  t57 := Tryz.underlying169
  a57 := Tryz.isAgg169
  z57 := Tryz.sizeOf169
  v57 := Tryz.zeroValue169
  t63 := Tryz.underlying178
  a63 := Tryz.isAgg178
  z63 := Tryz.sizeOf178
  v63 := Tryz.zeroValue178
  t64 := Tryz.underlying179
  a64 := Tryz.isAgg179
  z64 := Tryz.sizeOf179
  v64 := Tryz.zeroValue179 }
end Go.Proofs.YtihepapjopcagaaGreatDoor
end

/- slices.Sorted(maps.Keys(m)) at maps with int keys: the kit's contracts at this seat, in plain walks. -/
section
namespace Go.Proofs.YtihepapjopcagaaGreatDoor
open Go Go.RowKit Go.Maps Go.Sort Go.Shelf
set_option maxRecDepth 100000

theorem sortsI (m : Nat) : AnyZI.SortsIn Tryz.prog sortedI_ren Fence.wide m :=
  ⟨fun blk off cap ss W hH hblk hsz => callsIn_wide.2 (AnyM.slices_Sort_int sortI blk off cap ss W hH hblk hsz),
   fun p cap W => callsIn_wide.2 (AnyM.slices_Sort_int_none sortI p cap W)⟩

/-- The iterator that maps.Keys hands back. -/
def keysV (g : Nat) (b : Nat) : Value := .func (.func g) #[] #[.pointer (some ⟨b, 0, none⟩)]
theorem keysI_ok (mb : Option Nat) (W : World) : Calls Tryz.prog 48 #[.map mb] W fun e w' => e = .returned (keysV 70 W.heap.size) ∧ w' = W.alloc (.cells #[.map mb] 87) :=
  (callsIn_wide (n := 5)).1 (AnyZI.keys_in keysI Fence.wide 5 trivial rfl mb W)
theorem keysI_ok2 (mb : Option Nat) (W : World) : Calls Tryz.prog 48 #[.map mb] W fun e w' => e = .returned (keysV 70 W.heap.size) ∧ Below W.heap.size W w' ∧ w'.cell? ⟨W.heap.size, 0, none⟩ = some (.map mb) :=
  (keysI_ok mb W).mono fun e w' ⟨he, hw⟩ => ⟨he, by rw [hw]; exact (Below.refl _ _).alloc (Nat.le_refl _) _, by
    rw [hw, cell_of_row _ _ _ _ _ _ (heap_alloc_new W _)]; rfl⟩
theorem sortedI_ok {H : Type} (b nn : Nat) (D0 : DataW H) (R : Value → Option (DataW H × List MemPlace)) (w : World) (hown : w.ownsMap Tryz.prog 3 R b nn D0) (bx : Nat) (hbx : w.cell? ⟨bx, 0, none⟩ = some (.map (some b))) (hmax : Maps.size D0 ≤ maxLen) (hbytes : Maps.size D0 * 8 ≤ 140737488355328) :
    Calls Tryz.prog 47 #[keysV 70 bx] w fun e w' => ∃ (v : Value) (ss : List Int), e = .returned v ∧ ss.Perm (intKeys D0) ∧
      w'.ownsRow w.heap.size 3 1 v ss.length ((ss.mergeSort (fun x y => decide (x ≤ y))).map encZ) ∧ (v = .slice none 0 0 ↔ ss = []) ∧ Below w.heap.size w w' := by
  have hlt : bx < w.heap.size := by
    apply Nat.lt_of_not_le; intro hle
    simp [World.cell?, Array.getElem?_eq_none hle] at hbx
  have hseq : SeqGives Fence.wide 2 Tryz.prog 70 #[.pointer (some ⟨bx, 0, none⟩)] encZ (fun ss => ss.Perm (intKeys D0)) (Maps.size D0) w :=
    AnyZI.keys_gives (ρ := keysI_ren) { keysI with } Fence.wide _ trivial rfl (by omega) bx b nn D0 _ hlt hbx hown
  exact (callsIn_wide (n := 5)).1 (AnyZI.sorted_in sortedI Fence.wide 5 trivial trivial trivial trivial rfl (by omega) (sortsI _) (enters_of Tryz.func69 (by kernel_rfl) rfl) 70 #[.pointer (some ⟨bx, 0, none⟩)] trivial (enters_of Tryz.func70 (by kernel_rfl) rfl) _ _ hmax hbytes _ hseq)
end Go.Proofs.YtihepapjopcagaaGreatDoor
end

/- The keys of a map with int keys, as a set. -/
section
namespace Go.Proofs.YtihepapjopcagaaGreatDoor
open Go Go.RowKit Go.Maps

/-- The datum is a map whose keys are just the ints of a list. -/
def KeysAre {H : Type} (D : DataW H) (l : List Int) : Prop := ∃ es : List (Lit × DataW H), D = .map es ∧ (∀ p ∈ es, ∃ x, p.1 = .int .i64 x) ∧ ∀ x, x ∈ intKeys D ↔ x ∈ l
theorem KeysAre.none_ {H : Type} : KeysAre (.map [] : DataW H) [] := ⟨[], rfl, fun _ h => absurd h (by simp), fun x => by simp [intKeys]⟩
theorem mem_insert {H : Type} {x p : Lit × DataW H} : ∀ {l : List (Lit × DataW H)}, p ∈ DataW.insert x l ↔ p = x ∨ p ∈ l
  | [] => by simp [DataW.insert]
  | y :: r => by
    unfold DataW.insert
    split
    · simp
    · rw [List.mem_cons, mem_insert, List.mem_cons]
      constructor
      · rintro (h | h | h)
        · exact .inr (.inl h)
        · exact .inl h
        · exact .inr (.inr h)
      · rintro (h | h | h)
        · exact .inr (.inl h)
        · exact .inl h
        · exact .inr (.inr h)
theorem KeysAre.put {H : Type} {D : DataW H} {l : List Int} (h : KeysAre D l) (x : Int) (d : DataW H) : KeysAre (D.put (.int .i64 x) d) (l ++ [x]) := by
  obtain ⟨es, rfl, hk, hm⟩ := h
  refine ⟨_, rfl, fun p hp => ?_, fun y => ?_⟩
  · rcases mem_insert.1 hp with rfl | hp
    · exact ⟨x, rfl⟩
    · exact hk p (List.mem_filter.1 hp).1
  · have hm' : y ∈ intKeys (.map es) ↔ y ∈ l := hm y
    rw [List.mem_append, List.mem_singleton, ← hm']
    simp only [DataW.put, intKeys, List.mem_map]
    constructor
    · rintro ⟨p, hp, e⟩
      rcases mem_insert.1 hp with rfl | hp
      · right; exact e.symm
      · left; exact ⟨p, (List.mem_filter.1 hp).1, e⟩
    · rintro (⟨p, hp, e⟩ | rfl)
      · obtain ⟨z, hz⟩ := hk p hp
        by_cases hzx : z = x
        · refine ⟨_, mem_insert.2 (.inl rfl), ?_⟩
          rw [← e, hz, hzx]
        · refine ⟨p, mem_insert.2 (.inr (List.mem_filter.2 ⟨hp, ?_⟩)), e⟩
          rw [hz]
          simp [Lit.sameKey, hzx]
      · exact ⟨_, mem_insert.2 (.inl rfl), rfl⟩
theorem keys_size {H : Type} {D : DataW H} : (intKeys D).length ≤ Maps.size D := by
  unfold intKeys Maps.size
  split <;> simp
theorem flat_encZ (l : List Int) : l.map encZ = flat 1 icell l := by
  induction l with
  | nil => rfl
  | cons x l ih =>
    have e : flat 1 icell (x :: l) = icell x 0 :: flat 1 icell l := by simp [flat]
    rw [e, ← ih]
    rfl
theorem map_size {H : Type} {P : Program} {k : TypeId} {R : Value → Option (DataW H × List MemPlace)} {w : World} {b n : Nat} {D : DataW H} (h : w.ownsMap P k R b n D) : Maps.size D ≤ n := by
  obtain ⟨es, clock, hb, F, hs, rfl⟩ := h
  rw [Maps.size_eq, length_read]
  exact hs
/-- A call that returns a list with just the members of another one. -/
def RetM (w : World) (l : List Int) (n : Nat) (e : Ending) (w' : World) : Prop := ∃ (A : Option Addr) (c : Nat) (ss : List Int), e = .returned (.slice A ss.length c) ∧ Sl 1 icell w' w'.heap.size A ss ∧ (∀ x, x ∈ ss ↔ x ∈ l) ∧ ss.length ≤ n ∧ Below w.heap.size w w'
theorem sortedK_ok {H : Type} (b n : Nat) (D : DataW H) (R : Value → Option (DataW H × List MemPlace)) (l : List Int) (w : World) (hown : w.ownsMap Tryz.prog 3 R b n D) (bx : Nat) (hbx : w.cell? ⟨bx, 0, none⟩ = some (.map (some b))) (hK : KeysAre D l) (hn : n ≤ 10000000) :
    Calls Tryz.prog 47 #[keysV 70 bx] w (RetM w l n) := by
  have hsz := map_size hown
  refine (sortedI_ok b n D R w hown bx hbx (by unfold maxLen; omega) (by omega)).mono ?_
  rintro e w' ⟨v, ss, rfl, hp, hrow, -, hb⟩
  rw [flat_encZ] at hrow
  obtain ⟨A, c, rfl, hS⟩ := own_slice (by decide) hrow
  obtain ⟨es, rfl, _, hm⟩ := hK
  refine ⟨A, c, _, rfl, hS, fun x => ?_, ?_, hb⟩
  · rw [List.mem_mergeSort, hp.mem_iff, hm]
  · rw [List.length_mergeSort, hp.length_eq]
    exact Nat.le_trans keys_size hsz
end Go.Proofs.YtihepapjopcagaaGreatDoor
end

/- Layer 10: the cell with an index; the people of some cells. -/
section
namespace Go.Proofs.YtihepapjopcagaaGreatDoor
open Go Go.RowKit Go.Maps
set_option maxRecDepth 100000

theorem wrap_small {z : Int} (h : -4611686018427387904 ≤ z) (h2 : z ≤ 4611686018427387904) : IntKind.i64.wrap z = z := by
  unfold IntKind.wrap
  simp [IntKind.bits, IntKind.signed]
  omega

set_option maxHeartbeats 4000000 in
theorem cellAt_ok (W H : Int) (GA PA : Option Addr) (gl gc pl pc : Nat) (i : Nat) (w : World) (hW : 1 ≤ W ∧ W ≤ 64) (hi : (i : Int) ≤ 1000000) :
    Calls Tryz.prog 63 #[tv W H GA PA gl gc pl pc, .int .i64 i] w fun e w' => e = .returned (cv (M.cx W i) (M.cy W i)) ∧ Below w.heap.size w w' := by
  obtain ⟨V, HW, x0, x1, hB, hs⟩ := boxes2 w #[.int .i64 W, .int .i64 H, .slice GA gl gc, .slice PA pl pc] 30 #[.int .i64 0, .int .i64 0] 36
  have e1 : (i : Int).tmod W = M.cx W i := by unfold M.cx; exact Int.tmod_eq_emod_of_nonneg (by omega)
  have hcy : 0 ≤ M.cy W i ∧ M.cy W i ≤ 1000000 := by
    unfold M.cy
    have := Int.ediv_nonneg (a := (i : Int)) (b := W) (by omega) (by omega)
    have := Int.ediv_le_self (a := (i : Int)) W (by omega)
    omega
  have e2 : IntKind.i64.wrap ((i : Int) / W) = M.cy W i := wrap_small (z := M.cy W i) (by omega) (by omega)
  have E1 := Lib.hid e1
  have E2 := Lib.hid e2
  have HS := Lib.hid hs
  clear e1 e2 hs hcy
  obtain ⟨c0, c1, c2, c3⟩ := x0.c4
  clear c1 c2 c3
  have D0 : V.drew.cell? ⟨w.heap.size, 0, none⟩ = some (.int .i64 W) := c0
  have hW0 : W ≠ 0 := by omega
  have hne : w.heap.size ≠ w.heap.size + 1 := by omega
  have D1 : ∀ u v, ((V.drew.setCell ⟨w.heap.size + 1, 0, none⟩ u).setCell ⟨w.heap.size + 1, 1, none⟩ v).cell? ⟨w.heap.size, 0, none⟩ = some (.int .i64 W) := fun u v => ((x0.set_other (p := ⟨w.heap.size + 1, 0, none⟩) hne u).set_other (p := ⟨w.heap.size + 1, 1, none⟩) hne v).c4.1
  have f0 : V.drew.frozen? ⟨w.heap.size + 1, 0, none⟩ = false := x1.frozen 0
  have f1 : V.drew.frozen? ⟨w.heap.size + 1, 1, none⟩ = false := x1.frozen 1
  have f2 := x1.frozen 0
  have f3 := x1.frozen 1
  obtain ⟨g0, g1⟩ := x1.c2
  have G0 : V.drew.cell? ⟨w.heap.size + 1, 0, none⟩ = some (.int .i64 0) := g0
  have G1 : V.drew.cell? ⟨w.heap.size + 1, 1, none⟩ = some (.int .i64 0) := g1
  go_enter Tryz.func63, Tryz.ntmps63
  go_wp2_with fail
  rw [HW.out]
  go_region_held3 (fun w' => w'.cell? ⟨w.heap.size, 0, none⟩ = some (.int .i64 W)) (first | with_reducible exact D0 | with_reducible exact c0 | exact D1 _ _) (fail)
  all_goals
    rw [E1.out, E2.out]
    have z := (x1.set 0 (.int .i64 (M.cx W i))).set 1 (.int .i64 (M.cy W i))
    obtain ⟨z0, z1⟩ := z.c2
    have Z0 : ((V.drew.setCell ⟨w.heap.size + 1, 0, none⟩ (.int .i64 (M.cx W i))).setCell ⟨w.heap.size + 1, 1, none⟩ (.int .i64 (M.cy W i))).cell? ⟨w.heap.size + 1, 0, none⟩ = some (.int .i64 (M.cx W i)) := z0
    have Z1 : ((V.drew.setCell ⟨w.heap.size + 1, 0, none⟩ (.int .i64 (M.cx W i))).setCell ⟨w.heap.size + 1, 1, none⟩ (.int .i64 (M.cy W i))).cell? ⟨w.heap.size + 1, 1, none⟩ = some (.int .i64 (M.cy W i)) := z1
    go_wp2_with fail
    refine bodyPost_ret (v := cv (M.cx W i) (M.cy W i)) ?_ rfl ⟨rfl, ?_⟩
    · simp [results, Tryz.results63, go_sem, z0, z1]
    · exact (hB.drew.setCell (p := ⟨w.heap.size + 1, 0, none⟩) (by dsimp only; omega) _).setCell (p := ⟨w.heap.size + 1, 1, none⟩) (by dsimp only; omega) _

/-! ### The map of the cells that were counted -/
theorem laidOutA : laidOutB Tryz.prog = true := by kernel_rfl
theorem rowCell : (36 : TypeId) < Tryz.prog.types.size := of_decide_eq_true (by kernel_rfl)
theorem cellsCell : Tryz.prog.cellsOf 36 = 2 := by kernel_rfl
theorem deepCell : Tryz.prog.keyTypeAt (Tryz.prog.types.size + 1) 36 = true := by kernel_rfl
theorem wideCell : (match Tryz.prog.underlying 36 with | some (.array _ _) | some (.struct _) => true | _ => false) = true := by rw [Tryz.underlying36]
theorem cellKeyed : Keyed Tryz.prog 36 := Keyed.of_law (deep_law_laid laidOutA (m := 2) (by omega) rowCell (by kernel_rfl) wideCell)
theorem keyTypeCell : Tryz.prog.keyType 36 = true := by kernel_rfl
theorem cellsInt1 : Tryz.prog.cellsOf 3 = 1 := by kernel_rfl
theorem int_wf {z : Int} (h : 0 ≤ z ∧ z ≤ 1000000) : (Lit.int .i64 z).wf = true := by
  simp [Lit.wf, IntKind.min, IntKind.max, IntKind.bits, IntKind.signed]
  omega
theorem cell_key (x y : Int) (hx : 0 ≤ x ∧ x ≤ 1000000) (hy : 0 ≤ y ∧ y ≤ 1000000) : ∃ kl, keyOf Tryz.prog 36 (cv x y) = some kl := by
  obtain ⟨m, hm⟩ : ∃ m, Tryz.prog.types.size + 1 = m + 2 := by
    obtain ⟨k, hk⟩ := Nat.exists_eq_add_of_lt rowCell
    exact ⟨_ + k, by rw [hk]⟩
  have hf : (cv x y).formed Tryz.prog 36 = true := by unfold cv; simp [Value.formed, Tryz.underlying36, cellsCell]
  have h1 := int_wf hx
  have h2 := int_wf hy
  have hk : Tryz.prog.keyLits (m + 2) 36 [.int .i64 x, .int .i64 y] = some [.int .i64 x, .int .i64 y] := by
    simp [Program.keyLits, Tryz.underlying36, Tryz.underlying3, cellsCell, cellsInt1, h1, h2]
  refine ⟨.string (keyBytes [.int .i64 x, .int .i64 y]), ?_⟩
  unfold keyOf
  rw [Tryz.underlying36, keyTypeCell, hf, hm]
  simp only [Bool.and_self, if_true]
  rw [show (cv x y).cells.toList = [.int .i64 x, .int .i64 y] from rfl, hk]
  rfl
theorem zeroBool (w : World) : (zeroValue 4).run Tryz.prog w = .ok (.bool false) w := by kernel_rfl

theorem wpList_lookup_own_bool {H : Type} {P : Program} (w : World) {ops : Array Oper} {rest : List Oper} {o : Oper} {a : Act} {Q : Exit → Act → World → Prop}
    (hg : o.guard = none) (m x : Operand) (t : TypeId) (hop : o.op = Op.lookup t m x false)
    (k e : TypeId) (K : Keyed P k) (ht : P.underlying t = some (.map k e)) (he : P.underlying e = some .bool) (hz : (zeroValue e).run P w = .ok (.bool false) w) (b n : Nat) (D : DataW H)
    (hm : a.eval m = .map (some b)) (hown : w.ownsMap P k (plainElem P e) b n D) (key : Value) (kl : Lit) (hx : a.eval x = key) (hkey : keyOf P k key = some kl) (r : Bool) (hr : D.atKey kl (.lit (.bool false)) = .lit (.bool r))
    (hK : wpList P ops Q rest (a.put o.dst (.bool r)) w) :
    wpList P ops Q (o :: rest) a w := by
  refine wpList_plain hg fun K' hK' => ?_
  obtain ⟨v, ps, hrun, hv⟩ := hown.lookup K ht hz (plainElem_bool he false) hkey
  rw [hr] at hv
  obtain rfl : v = .bool r := by
    unfold plainElem at hv
    rw [he] at hv
    cases v <;> simp at hv
    exact congrArg Value.bool hv.1
  unfold Oper.wp
  simp [execOp, hop, hm, hx, hrun, Result.andThen]
  exact hK' _ _ hK

/-- The people of the first k cells, each counted once. -/
def M.totTo (P : List Int) (l : List Int) : Nat → Int
  | 0 => 0
  | k + 1 => M.totTo P l k + match l[k]? with
    | some x => if x ∈ l.take k then 0 else P.getD x.toNat 0
    | none => 0
def M.total (P : List Int) (l : List Int) : Int := M.totTo P l l.length
theorem M.totTo_succ {P l : List Int} {k : Nat} (h : k < l.length) : M.totTo P l (k + 1) = M.totTo P l k + if l[k] ∈ l.take k then 0 else P.getD l[k].toNat 0 := by
  simp only [M.totTo, List.getElem?_eq_getElem h]
theorem M.totTo_bd {P l : List Int} (hP : ∀ g ∈ P, 0 ≤ g ∧ g ≤ 1000000) (k : Nat) : 0 ≤ M.totTo P l k ∧ M.totTo P l k ≤ 1000000 * k := by
  induction k with
  | zero => simp [M.totTo]
  | succ k ih =>
    have hg : ∀ j, 0 ≤ P.getD j 0 ∧ P.getD j 0 ≤ 1000000 := fun j => by
      by_cases hj : j < P.length
      · have := hP P[j] (List.getElem_mem hj)
        simpa [hj] using this
      · simp [Nat.le_of_not_lt hj]
    simp only [M.totTo]
    split
    · split
      · omega
      · rename_i x _ _
        have := hg x.toNat
        omega
    · omega
end Go.Proofs.YtihepapjopcagaaGreatDoor
end

/- Layer 10: the people of some cells. -/
section
namespace Go.Proofs.YtihepapjopcagaaGreatDoor
open Go Go.RowKit Go.Maps
set_option maxRecDepth 100000

theorem M.cell_ne {W : Int} {i j : Nat} (h : (cv (M.cx W i) (M.cy W i)) = cv (M.cx W j) (M.cy W j)) : i = j := by
  have h1 : M.cx W i = M.cx W j ∧ M.cy W i = M.cy W j := by
    unfold cv at h
    simpa using h
  unfold M.cx M.cy at h1
  have a := Int.emod_add_mul_ediv (i : Int) W
  have b := Int.emod_add_mul_ediv (j : Int) W
  rw [h1.1, h1.2] at a
  omega
/-- What the map of the counted cells holds. -/
def Cnt (W : Int) (n : Nat) (D : DataW Unit) (l : List Int) : Prop := ∀ (j : Nat) kl, j < n → keyOf Tryz.prog 36 (cv (M.cx W j) (M.cy W j)) = some kl → D.atKey kl (.lit (.bool false)) = .lit (.bool (decide ((j : Int) ∈ l)))
theorem Cnt.put {W : Int} {n : Nat} {D : DataW Unit} {l : List Int} (h : Cnt W n D l) (hm : IsMap D) {i : Nat} {kl : Lit} (hk : keyOf Tryz.prog 36 (cv (M.cx W i) (M.cy W i)) = some kl) : Cnt W n (D.put kl (.lit (.bool true))) (l ++ [(i : Int)]) := by
  intro j kj hj hkj
  by_cases e : j = i
  · subst e
    obtain rfl : kl = kj := Option.some.inj (hk.symm.trans hkj)
    rw [atKey_put_same hm (cellKeyed.key hk)]
    simp
  · have hne : kj ≠ kl := fun he => by
      subst he
      exact e (M.cell_ne (cellKeyed.inj hkj hk))
    rw [atKey_put_other hne, h j kj hj hkj]
    have : ((j : Int) ∈ l ++ [(i : Int)]) ↔ (j : Int) ∈ l := by
      simp
      intro e2
      omega
    simp only [this]
theorem Cnt.stay {W : Int} {n : Nat} {D : DataW Unit} {l : List Int} (h : Cnt W n D l) {x : Int} (hx : x ∈ l) : Cnt W n D (l ++ [x]) := by
  intro j kj hj hkj
  rw [h j kj hj hkj]
  have : ((j : Int) ∈ l ++ [x]) ↔ (j : Int) ∈ l := by
    simp
    intro e2
    rw [e2]; exact hx
  simp only [this]

theorem grownBy_cell_ne {w w' : World} {b c : Nat} (hg : w.grownBy w' (some b)) {p : Addr} (hp : p.block < w.heap.size) (h1 : p.block < c) (h2 : c < b) : w'.cell? p = w.cell? p :=
  World.cell?_of_block (hg.block p.block hp (fun e => by have := Option.some.inj e; omega))

set_option maxHeartbeats 16000000 in
theorem tTotal_ok (W H : Int) (GA PA : Option Addr) (gc pc : Nat) (G P : List Int) (A : Option Addr) (c : Nat) (l : List Int) (w : World) (hg : Sl 1 icell w w.heap.size GA G) (hp : Sl 1 icell w w.heap.size PA P) (hl : Sl 1 icell w w.heap.size A l) (htv : M.tvalid W H G P = true) (hlen : l.length ≤ 100000) (hin : ∀ x ∈ l, 0 ≤ x ∧ x < W * H) :
    Calls Tryz.prog 41 #[tv W H GA PA G.length gc P.length pc, .slice A l.length c] w fun e w' => e = .returned (.tuple #[.int .i64 (M.total P l), .int .i64 0]) ∧ Below w.heap.size w w' := by
  obtain ⟨V, HW, x0, hB, hs⟩ := boxes1 w #[.int .i64 W, .int .i64 H, .slice GA G.length gc, .slice PA P.length pc] 30
  obtain ⟨r1, r2, hr3, hr4, hr5, hr6⟩ := M.tvalid_iff.1 htv
  obtain ⟨wh1, wh2⟩ := M.wh_le r1 r2
  obtain ⟨n, hn⟩ : ∃ n : Nat, W * H = n := ⟨(W * H).toNat, by omega⟩
  have HTV := Lib.hid htv
  have HIN : Hid (∀ k (hk : k < l.length), ∃ i : Nat, l[k] = (i : Int) ∧ i < n) := Lib.hid (fun k hk => by
    have := hin l[k] (List.getElem_mem hk)
    exact ⟨l[k].toNat, by omega, by omega⟩)
  have HPL : Hid (P.length = n ∧ ∀ g ∈ P, 0 ≤ g ∧ g ≤ 1000000) := Lib.hid ⟨by omega, hr6⟩
  have hgl : G.length ≤ 5000 := by omega
  have hplen : P.length ≤ 5000 := by omega
  have hn4 : n ≤ 4096 := by omega
  have HS := Lib.hid hs
  clear hs htv hin hr3 hr4 hr5 hr6
  obtain ⟨c0, c1, c2, c3⟩ := x0.c4
  have hV := HW.out
  go_enter Tryz.func41, Tryz.ntmps41
  go_wp2_with fail
  clear hV c0 c1 c2 c3
  refine (tvalid_any W H GA PA gc pc G P V ((hg.below hB).more hB.size) ((hp.below hB).more hB.size) (by omega) (by omega)).mono ?_
  rintro e w1 ⟨rfl, hb1⟩
  rw [HTV.out]
  have B1 := after_ hB hb1
  have hmm := @run_makeMap Tryz.prog
  obtain ⟨U, HU⟩ : ∃ U, Hid (w1.alloc (.map #[] 0) = U) := ⟨_, Lib.hid rfl⟩
  have hU := HU.out
  have hbU : Below w1.heap.size w1 U := by rw [← hU]; exact (Below.refl _ _).alloc (Nat.le_refl _) _
  have BU := after_ B1 hbU
  have hown : U.ownsMap Tryz.prog 36 (plainElem (H := Unit) Tryz.prog 4) w1.heap.size 0 (.map []) := by rw [← hU]; exact World.ownsMap_made _ _ _ _
  have xU := (x0.below hb1).below hbU
  have hlt1 : w.heap.size < w1.heap.size := by have := HS.out; have := hb1.size; omega
  go_wp2_with fail
  clear hU hmm
  go_loopw [7, 9, 10, 17] (fun t _ _ i wr => ∃ (k : Nat) (m : Nat) (D : DataW Unit), k ≤ l.length ∧ m ≤ k ∧ i = .int .i64 k ∧ t = .int .i64 (M.totTo P l k) ∧ Below w.heap.size w wr ∧ Box wr w.heap.size #[.int .i64 W, .int .i64 H, .slice GA G.length gc, .slice PA P.length pc] 30 ∧ wr.ownsMap Tryz.prog 36 (plainElem (H := Unit) Tryz.prog 4) w1.heap.size m D ∧ Hid (IsMap D ∧ Cnt W n D (l.take k))) (fun _ _ _ i _ => l.length - (intOf i).toNat)
  case atStart => exact ⟨0, 0, .map [], Nat.zero_le _, Nat.le_refl _, rfl, rfl, BU, xU, hown, Lib.hid ⟨isMap_empty, fun j kl _ _ => by simp [DataW.atKey]⟩⟩
  case round =>
    clear hown xU
    obtain ⟨k, m, D, hk, hmk, rfl, rfl, hBr, xr, hown, HD⟩ := hrel
    by_cases hlt : k < l.length
    · obtain ⟨i, hie, hin⟩ := HIN.out k hlt
      obtain ⟨la, rfl, hlb, a0⟩ := ((hl.below hBr).more hBr.size).one_at hlt
      simp only [icell] at a0
      rw [hie] at a0
      obtain ⟨c0, c1, c2, c3⟩ := xr.c4
      have hIN : M.isIn (i : Int) 0 (n - 1) = true := M.isIn_iff.2 ⟨by omega, by omega⟩
      have hmul : W * H = (n : Int) := hn
      have HTS := Lib.hid (M.totTo_succ (P := P) hlt)
      rw [hie] at HTS
      have htb := M.totTo_bd (l := l) HPL.out.2 k
      have HTK : Hid (l.take (k + 1) = l.take k ++ [(i : Int)]) := Lib.hid (by rw [List.take_succ_eq_append_getElem hlt, hie])
      clear hie
      go_wp2_with fail
      refine (within_any (i : Int) 0 (n - 1) wr).mono ?_
      rintro e w3 ⟨rfl, rfl⟩
      rw [hIN]
      go_wp2_with fail
      refine (cellAt_ok W H GA PA G.length gc P.length pc i wr r1 (by omega)).mono ?_
      rintro e w4 ⟨rfl, hb4⟩
      have B4 := after_ hBr hb4
      obtain ⟨X, HX, u0, hbX, -⟩ := boxes1 w4 #[.int .i64 (M.cx W i), .int .i64 (M.cy W i)] 36
      have BX := after_ B4 hbX
      obtain ⟨hcx, hcy⟩ := M.cell_in (W := W) (H := H) (i := i) (by omega) (by omega)
      obtain ⟨kl, hkl⟩ := cell_key (M.cx W i) (M.cy W i) (by omega) (by omega)
      have hownX := (hown.kept (below_grown hb4) (by simp)).kept (below_grown hbX) (by simp)
      have xX := (xr.below hb4).below hbX
      have hat := HD.out.2 i kl hin hkl
      clear c0 c1 c2 c3 a0
      obtain ⟨c0, c1, c2, c3⟩ := xX.c4
      obtain ⟨d0, d1⟩ := u0.c2
      have hX := HX.out
      obtain ⟨pa, rfl, hpb, p0⟩ := ((hp.below BX).more BX.size).one_at (k := i) (by have := HPL.out.1; omega)
      have hpi : i < P.length := by have := HPL.out.1; omega
      have hPg : P.getD (i : Int).toNat 0 = P[i] := by simp [hpi]
      have hpv := HPL.out.2 P[i] (List.getElem_mem hpi)
      simp only [icell] at p0
      by_cases hmem : (i : Int) ∈ l.take k
      · rw [decide_eq_true hmem] at hat
        have HT2 : Hid (M.totTo P l (k + 1) = M.totTo P l k) := Lib.hid (by rw [HTS.out, if_pos hmem]; omega)
        have HC2 : Hid (IsMap D ∧ Cnt W n D (l.take (k + 1))) := Lib.hid ⟨HD.out.1, by rw [HTK.out]; exact HD.out.2.stay hmem⟩
        have HAT := Lib.hid hat
        clear hat hmem
        go_wp2_with (at_lookup; refine wpList_lookup_own_bool X rfl _ _ _ rfl 36 4 cellKeyed Tryz.underlying98 Tryz.underlying4 (zeroBool _) w1.heap.size m D rfl hownX _ kl rfl hkl true HAT.out ?_)
        go_roundw
        case rel => exact ⟨k + 1, m, D, hlt, by omega, by go_num, by rw [HT2.out], BX, xX, hownX, HC2⟩
        case measure => simp [intOf]; omega
      · rw [decide_eq_false hmem] at hat
        have HT2 : Hid (M.totTo P l (k + 1) = M.totTo P l k + P[i]) := Lib.hid (by rw [HTS.out, if_neg hmem, hPg])
        have HC2 : Hid (IsMap (D.put kl (.lit (.bool true))) ∧ Cnt W n (D.put kl (.lit (.bool true))) (l.take (k + 1))) := Lib.hid ⟨HD.out.1.put _ _, by rw [HTK.out]; exact HD.out.2.put HD.out.1 hkl⟩
        have HAT := Lib.hid hat
        clear hat hmem
        have hml : m < maxLen := by unfold maxLen; omega
        have hbm := hownX.lt
        have lX := xX.lt
        have hpb2 : (pa.add i).block < X.heap.size := by first | exact hpb | (rw [add_block]; exact hpb)
        have hpX : (pa.add i).block < w.heap.size := by
          rw [add_block]
          obtain ⟨pa', e', h', -⟩ := hp i hpi
          obtain rfl := Option.some.inj e'
          exact h'
        go_wp2_with (first | (at_lookup; refine wpList_lookup_own_bool X rfl _ _ _ rfl 36 4 cellKeyed Tryz.underlying98 Tryz.underlying4 (zeroBool _) w1.heap.size m D rfl hownX _ kl rfl hkl false HAT.out ?_) | (at_mapUpdate; refine wpList_mapUpdate_own X rfl _ _ _ _ rfl 36 4 cellKeyed Tryz.underlying98 _ w1.heap.size m D rfl hownX hml _ _ kl rfl rfl hkl _ [] (plainElem_bool Tryz.underlying4 true) ?_; intro w5 hown5 hg5; have B5 : Below w.heap.size w w5 := BX.grown hg5 BX.size (fun k e => by cases e; omega); have x5 : Box w5 w.heap.size #[.int .i64 W, .int .i64 H, .slice GA G.length gc, .slice (some pa) P.length pc] 30 := (hg5.block _ lX (fun e => by have := Option.some.inj e; omega)).trans xX; obtain ⟨v0, v1, v2, v3⟩ := x5.c4; have p5 : w5.cell? (pa.add i) = some (.int .i64 P[i]) := (grownBy_cell_ne hg5 hpb2 hpX hlt1).trans p0))
        go_roundw
        case rel => exact ⟨k + 1, m + 1, D.put kl (.lit (.bool true)), hlt, by omega, by go_num, by rw [HT2.out], B5, x5, hown5, HC2⟩
        case measure => simp [intOf]; omega
    · obtain rfl : k = l.length := by omega
      go_wp2_with fail
      go_ret2
      exact ⟨rfl, hBr⟩
end Go.Proofs.YtihepapjopcagaaGreatDoor
end
