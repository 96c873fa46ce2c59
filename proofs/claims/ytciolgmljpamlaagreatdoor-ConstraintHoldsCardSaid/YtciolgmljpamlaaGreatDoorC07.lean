/- A bundle of texts: Sorted, Keys. -/
import Derived.Test.YtciolgmljpamlaaGreatDoorC06
import Derived.Test.YtciolgmljpamlaaGreatDoorC01
section
namespace Go.Proofs.YtciolgmljpamlaaGreatDoor
open Go Go.RowKit Go.Maps Go.Sort Go.Shelf
set_option maxRecDepth 100000
theorem sortsI (m : Nat) : AnyZI.SortsIn Tryz.prog sortedI_ren Fence.wide m :=
 ⟨fun blk off cap ss W hH hblk hsz => callsIn_wide.2 (AnyM.slices_Sort_int sortI blk off cap ss W hH hblk hsz),
  fun p cap W => callsIn_wide.2 (AnyM.slices_Sort_int_none sortI p cap W)⟩
def keysV (g : Nat) (b : Nat) : Value := .func (.func g) #[] #[.pointer (some ⟨b, 0, none⟩)]
theorem keysI_ok (mb : Option Nat) (W : World) : Calls Tryz.prog 134 #[.map mb] W fun e w' => e = .returned (keysV 174 W.heap.size) ∧ w' = W.alloc (.cells #[.map mb] 169) :=
 (callsIn_wide (n := 5)).1 (AnyZI.keys_in keysI Fence.wide 5 trivial rfl mb W)
theorem keysI_ok2 (mb : Option Nat) (W : World) : Calls Tryz.prog 134 #[.map mb] W fun e w' => e = .returned (keysV 174 W.heap.size) ∧ Below W.heap.size W w' ∧ w'.cell? ⟨W.heap.size, 0, none⟩ = some (.map mb) :=
 (keysI_ok mb W).mono fun e w' ⟨he, hw⟩ => ⟨he, by rw [hw]; exact (Below.refl _ _).alloc (Nat.le_refl _) _, by
  rw [hw, cell_of_row _ _ _ _ _ _ (heap_alloc_new W _)]; rfl⟩
theorem sortedI_ok {H : Type} (b nn : Nat) (D0 : DataW H) (R : Value → Option (DataW H × List MemPlace)) (w : World) (hown : w.ownsMap Tryz.prog 3 R b nn D0) (bx : Nat) (hbx : w.cell? ⟨bx, 0, none⟩ = some (.map (some b))) (hmax : Maps.size D0 ≤ maxLen) (hbytes : Maps.size D0 * 8 ≤ 140737488355328) :
  Calls Tryz.prog 52 #[keysV 174 bx] w fun e w' => ∃ (v : Value) (ss : List Int), e = .returned v ∧ ss.Perm (intKeys D0) ∧
   w'.ownsRow w.heap.size 3 1 v ss.length ((ss.mergeSort (fun x y => decide (x ≤ y))).map encZ) ∧ (v = .slice none 0 0 ↔ ss = []) ∧ Below w.heap.size w w' := by
 have hlt : bx < w.heap.size := by
  apply Nat.lt_of_not_le; intro hle
  simp [World.cell?, Array.getElem?_eq_none hle] at hbx
 have hseq : SeqGives Fence.wide 2 Tryz.prog 174 #[.pointer (some ⟨bx, 0, none⟩)] encZ (fun ss => ss.Perm (intKeys D0)) (Maps.size D0) w :=
  AnyZI.keys_gives (ρ := keysI_ren) { keysI with } Fence.wide _ trivial rfl (by omega) bx b nn D0 _ hlt hbx hown
 exact (callsIn_wide (n := 5)).1 (AnyZI.sorted_in sortedI Fence.wide 5 trivial trivial trivial trivial rfl (by omega) (sortsI _) (enters_of Tryz.func98 (by kernel_rfl) rfl) 174 #[.pointer (some ⟨bx, 0, none⟩)] trivial (enters_of Tryz.func174 (by kernel_rfl) rfl) _ _ hmax hbytes _ hseq)
end Go.Proofs.YtciolgmljpamlaaGreatDoor
end

section
namespace Go.Proofs.YtciolgmljpamlaaGreatDoor
open Go Go.RowKit Go.Maps
def KeysAre {H : Type} (D : DataW H) (l : List Int) : Prop := ∃ es : List (Lit × DataW H), D = .map es ∧ (∀ p ∈ es, ∃ x, p.1 = .int .i64 x) ∧ ∀ x, x ∈ intKeys D ↔ x ∈ l
theorem KeysAre.none_ {H : Type} : KeysAre (.map [] : DataW H) [] := ⟨[], rfl, fun _ h => absurd h (by simp), fun x => by simp [intKeys]⟩
theorem mem_insert {H : Type} {x p : Lit × DataW H} : ∀ {l : List (Lit × DataW H)}, p ∈ DataW.insert x l ↔ p = x ∨ p ∈ l
  | [] => by simp [DataW.insert]
  | y :: r => by
    unfold DataW.insert
    split
    · simp
    · rw [List.mem_cons, mem_insert, List.mem_cons]
      constructor
      · rintro (h | h | h)
        · exact .inr (.inl h)
        · exact .inl h
        · exact .inr (.inr h)
      · rintro (h | h | h)
        · exact .inr (.inl h)
        · exact .inl h
        · exact .inr (.inr h)
theorem KeysAre.put {H : Type} {D : DataW H} {l : List Int} (h : KeysAre D l) (x : Int) (d : DataW H) : KeysAre (D.put (.int .i64 x) d) (l ++ [x]) := by
  obtain ⟨es, rfl, hk, hm⟩ := h
  refine ⟨_, rfl, fun p hp => ?_, fun y => ?_⟩
  · rcases mem_insert.1 hp with rfl | hp
    · exact ⟨x, rfl⟩
    · exact hk p (List.mem_filter.1 hp).1
  · have hm' : y ∈ intKeys (.map es) ↔ y ∈ l := hm y
    rw [List.mem_append, List.mem_singleton, ← hm']
    simp only [DataW.put, intKeys, List.mem_map]
    constructor
    · rintro ⟨p, hp, e⟩
      rcases mem_insert.1 hp with rfl | hp
      · right; exact e.symm
      · left; exact ⟨p, (List.mem_filter.1 hp).1, e⟩
    · rintro (⟨p, hp, e⟩ | rfl)
      · obtain ⟨z, hz⟩ := hk p hp
        by_cases hzx : z = x
        · refine ⟨_, mem_insert.2 (.inl rfl), ?_⟩
          rw [← e, hz, hzx]
        · refine ⟨p, mem_insert.2 (.inr (List.mem_filter.2 ⟨hp, ?_⟩)), e⟩
          rw [hz]
          simp [Lit.sameKey, hzx]
      · exact ⟨_, mem_insert.2 (.inl rfl), rfl⟩
theorem keys_size {H : Type} {D : DataW H} : (intKeys D).length ≤ Maps.size D := by
  unfold intKeys Maps.size
  split <;> simp
theorem flat_encZ (l : List Int) : l.map encZ = flat 1 icell l := by
  induction l with
  | nil => rfl
  | cons x l ih =>
    have e : flat 1 icell (x :: l) = icell x 0 :: flat 1 icell l := by simp [flat]
    rw [e, ← ih]
    rfl
theorem map_size {H : Type} {P : Program} {k : TypeId} {R : Value → Option (DataW H × List MemPlace)} {w : World} {b n : Nat} {D : DataW H} (h : w.ownsMap P k R b n D) : Maps.size D ≤ n := by
  obtain ⟨es, clock, hb, F, hs, rfl⟩ := h
  rw [Maps.size_eq, length_read]
  exact hs
def RetM (w : World) (l : List Int) (n : Nat) (e : Ending) (w' : World) : Prop := ∃ (A : Option Addr) (c : Nat) (ss : List Int), e = .returned (.slice A ss.length c) ∧ Sl 1 icell w' w'.heap.size A ss ∧ (∀ x, x ∈ ss ↔ x ∈ l) ∧ ss.length ≤ n ∧ Below w.heap.size w w'
theorem sortedK_ok {H : Type} (b n : Nat) (D : DataW H) (R : Value → Option (DataW H × List MemPlace)) (l : List Int) (w : World) (hown : w.ownsMap Tryz.prog 3 R b n D) (bx : Nat) (hbx : w.cell? ⟨bx, 0, none⟩ = some (.map (some b))) (hK : KeysAre D l) (hn : n ≤ 10000000) :
    Calls Tryz.prog 52 #[keysV 174 bx] w (RetM w l n) := by
  have hsz := map_size hown
  refine (sortedI_ok b n D R w hown bx hbx (by unfold maxLen; omega) (by omega)).mono ?_
  rintro e w' ⟨v, ss, rfl, hp, hrow, -, hb⟩
  rw [flat_encZ] at hrow
  obtain ⟨A, c, rfl, hS⟩ := own_slice (by decide) hrow
  obtain ⟨es, rfl, _, hm⟩ := hK
  refine ⟨A, c, _, rfl, hS, fun x => ?_, ?_, hb⟩
  · rw [List.mem_mergeSort, hp.mem_iff, hm]
  · rw [List.length_mergeSort, hp.length_eq]
    exact Nat.le_trans keys_size hsz
end Go.Proofs.YtciolgmljpamlaaGreatDoor
end
