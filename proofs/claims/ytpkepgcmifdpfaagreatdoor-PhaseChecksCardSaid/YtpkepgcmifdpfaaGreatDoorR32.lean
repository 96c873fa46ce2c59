/- A bundle of texts: Conc, Or1, Or2. -/
import Derived.Shelf.Spec.SlicesGrow
import Derived.Test.YtpkepgcmifdpfaaGreatDoorR31
import Derived.Test.YtpkepgcmifdpfaaGreatDoorR30
import Derived.Test.YtpkepgcmifdpfaaGreatDoorR04
import Derived.Test.YtpkepgcmifdpfaaGreatDoorR25
import Derived.Test.YtpkepgcmifdpfaaGreatDoorR01
import Derived.Test.YtpkepgcmifdpfaaGreatDoorR15
import Derived.Test.YtpkepgcmifdpfaaGreatDoorR10
section
namespace Go.Proofs.YtpkepgcmifdpfaaGreatDoor
open Go Go.RowKit Go.Shelf
set_option maxRecDepth 100000
def growP_ren : Go.Shelf.Ren := ⟨fun | 4 => 106 | n => n, fun | 0 => 0 | 3 => 3 | 4 => 4 | 9 => 9 | 20 => 20 | 22 => 29 | 25 => 3 | n => n, fun n => n⟩
theorem growP : Go.Proofs.Lays8.n4 Tryz.prog growP_ren := {
  mixed := by kernel_rfl
  f4 := ⟨Tryz.f106.name, by decide, Tryz.func106.trans (congrArg some (by kernel_rfl))⟩
  t0 := Tryz.underlying0
  a0 := Tryz.isAgg0
  z0 := Tryz.sizeOf0
  v0 := Tryz.zeroValue0
  t3 := Tryz.underlying3
  a3 := Tryz.isAgg3
  z3 := Tryz.sizeOf3
  v3 := Tryz.zeroValue3
  t4 := Tryz.underlying4
  a4 := Tryz.isAgg4
  z4 := Tryz.sizeOf4
  v4 := Tryz.zeroValue4
  t9 := Tryz.underlying9
  a9 := Tryz.isAgg9
  z9 := Tryz.sizeOf9
  v9 := Tryz.zeroValue9
  t20 := Tryz.underlying20
  a20 := Tryz.isAgg20
  z20 := Tryz.sizeOf20
  v20 := Tryz.zeroValue20
  t22 := Tryz.underlying29
  a22 := Tryz.isAgg29
  z22 := Tryz.sizeOf29
  v22 := Tryz.zeroValue29 }
theorem growP_ok (n : Nat) (w : World) (hn : n ≤ 1000000) :
    Calls Tryz.prog 106 #[.slice none 0 0, .int .i64 n] w fun e w' => (∃ v, e = .returned v ∧ w'.ownsRow w.heap.size 3 1 v 0 (flat 1 icell ([] : List Int))) ∧ Below w.heap.size w w' := by
  obtain ⟨ii, hii, hzi0, hzi1, hzi2⟩ := info_parts intInfoP
  by_cases h0 : n = 0
  · subst h0
    refine (Any8.slices_Grow_room growP none 0 0 0 w (Nat.le_refl _) (by omega) (by omega) (by omega)).mono ?_
    rintro e w' ⟨rfl, rfl⟩
    exact ⟨⟨_, rfl, own_nil _ _ _ _ _⟩, Below.refl _ _⟩
  · refine (Any8.slices_Grow_grow growP ii _ hii hzi0 (by rw [hzi1]; decide) none 0 0 n [] w (Nat.le_refl _) (by omega) (by rw [hzi2]; omega) (by omega) (by simp) (fun _ => rfl) (fun a h => by cases h)).mono ?_
    rintro e w' ⟨rfl, rfl⟩
    refine ⟨⟨_, rfl, by simp [flat], .inr ⟨w.heap.size, _, _, rfl, Nat.le_refl _, heap_alloc_new w.drew _, Nat.zero_le _, grownCap_le_maxLen _ _ _ _ (by unfold maxLen; omega), ?_, by simp [flat]⟩⟩, ((Below.refl _ _).drew).alloc (Nat.le_refl _) _⟩
    have hge := grownCap_ge w (0 + n) 0 3
    simp only [Array.size_append, size_zeroCells, List.size_toArray, List.length_nil, Value.cells]
    show 0 + (0 + n - 0) * 1 + (grownCap w (0 + n) 0 3 - (0 + n)) * 1 = grownCap w (0 + n) 0 3 * 1
    omega
def M.cat (ls : List SLc) : List Int := (ls.map (·.xs)).flatten
theorem M.cat_take {ls : List SLc} {k : Nat} (h : k < ls.length) : M.cat (ls.take (k + 1)) = M.cat (ls.take k) ++ ls[k].xs := by
  unfold M.cat
  rw [List.take_succ_eq_append_getElem h, List.map_append, List.flatten_append]
  simp
theorem M.cat_le {ls : List SLc} {k : Nat} : (M.cat (ls.take k)).length ≤ (M.cat ls).length := by
  unfold M.cat
  conv => rhs; rw [← List.take_append_drop k ls, List.map_append, List.flatten_append, List.length_append]
  omega
set_option maxHeartbeats 16000000 in
theorem concatP_ok (OA : Option Addr) (oc : Nat) (os : List SLc) (w : World) (hO : LL w OA os) (hol : os.length ≤ 1000000) (hl : (M.cat os).length ≤ 1000000) :
    Calls Tryz.prog 76 #[.slice OA os.length oc] w fun e w' => (∃ v, e = .returned v ∧ w'.ownsRow w.heap.size 3 1 v (M.cat os).length (flat 1 icell (M.cat os))) ∧ Below w.heap.size w w' := by
  obtain ⟨ii, hii, hzi0, hzi1, hzi2⟩ := info_parts intInfoP
  have Hii := Lib.hid hii; have Hzi0 := Lib.hid hzi0; have Hzi1 := Lib.hid hzi1; have Hzi2 := Lib.hid hzi2
  clear hii hzi0 hzi1 hzi2
  have HL := Lib.hid hl
  have HOL := Lib.hid hol
  clear hl
  go_enter Tryz.func76, Tryz.ntmps76
  go_wp2_with fail
  go_loopw [3, 5, 11] (fun s _ i wr => ∃ k : Nat, k ≤ os.length ∧ i = .int .i64 k ∧ s = .int .i64 ((M.cat (os.take k)).length : Nat) ∧ wr = w) (fun _ _ i _ => os.length - (intOf i).toNat)
  case atStart => exact ⟨0, Nat.zero_le _, rfl, rfl, rfl⟩
  case round =>
    obtain ⟨k, hk, rfl, rfl, hww⟩ := hrel
    obtain rfl : w = wr := hww.symm
    clear hww
    by_cases hlt : k < os.length
    · obtain ⟨la, hla, hlb, a0⟩ := hO.outer.sl1 hlt
      have x0 : (0 : Int) ≤ (k : Int) := by omega
      have y0 : (k : Int) < (os.length : Int) := by omega
      have q0 : decide ((k : Int) < (os.length : Int)) = true := decide_eq_true y0
      obtain ⟨sn, hsn⟩ : ∃ n, (M.cat (os.take k)).length = n := ⟨_, rfl⟩
      have hsl : sn + os[k].xs.length ≤ 1000000 := by
        have h1 := M.cat_le (ls := os) (k := k + 1)
        rw [M.cat_take hlt, List.length_append, hsn] at h1
        have := HL.out
        omega
      have HS : Hid ((M.cat (os.take (k + 1))).length = sn + os[k].xs.length) := Lib.hid (by rw [M.cat_take hlt, List.length_append, hsn])
      rw [hsn]
      clear hsn
      generalize os[k].xs.length = rl at *
      generalize os[k].A = sA at *
      generalize os[k].c = scp at *
      have z0 : (0 : Int) ≤ (sn : Int) + (rl : Int) := by omega
      have z1 : (sn : Int) + (rl : Int) ≤ 1000000 := by omega
      have q1 : decide ((sn : Int) + (rl : Int) < 0) = false := decide_eq_false (by omega)
      clear hsl
      subst hla
      go_wp2_with fail
      go_roundw
      case rel => exact ⟨k + 1, hlt, by go_num, by rw [HS.out]; go_num, trivial⟩
      case measure => simp [intOf]; omega
    · obtain rfl : k = os.length := by omega
      have q0 : decide ((os.length : Int) < (os.length : Int)) = false := decide_eq_false (by omega)
      rw [List.take_length]
      obtain ⟨tn, htn⟩ : ∃ n, (M.cat os).length = n := ⟨_, rfl⟩
      rw [htn]
      have HTN := Lib.hid htn
      have kG := growP_ok tn w (by have := HL.out; omega)
      clear htn
      go_wp2_with fail
      refine kG.mono ?_
      rintro e w1 ⟨⟨v, rfl, hv⟩, hb1⟩
      clear kG
      go_wp2_with fail
      go_loopw [6, 8, 27] (fun v _ i wr => ∃ k : Nat, k ≤ os.length ∧ i = .int .i64 k ∧ wr.ownsRow w.heap.size 3 1 v (M.cat (os.take k)).length (flat 1 icell (M.cat (os.take k))) ∧ Below w.heap.size w wr) (fun _ _ i _ => os.length - (intOf i).toNat)
      case atStart => exact ⟨0, Nat.zero_le _, rfl, hv, hb1⟩
      case round =>
        clear hv hb1
        obtain ⟨k, hk, rfl, hv, hb1⟩ := hrel
        by_cases hlt : k < os.length
        · have hLx := hO.next hb1
          obtain ⟨la, hla, hlb, a0⟩ := hLx.outer.sl1 hlt
          have x0 : (0 : Int) ≤ (k : Int) := by omega
          have y0 : (k : Int) < (os.length : Int) := by omega
          have q1 : decide ((k : Int) < (os.length : Int)) = true := decide_eq_true y0
          have hin := hLx.inner _ (List.getElem_mem hlt)
          have hsl : (M.cat (os.take k)).length + os[k].xs.length ≤ 1000000 := by
            have h1 := M.cat_le (ls := os) (k := k + 1)
            rw [M.cat_take hlt, List.length_append] at h1
            have := HL.out
            omega
          have HS : Hid (M.cat (os.take (k + 1)) = M.cat (os.take k) ++ os[k].xs) := Lib.hid (M.cat_take hlt)
          generalize M.cat (os.take k) = ck at *
          generalize os[k].xs = rx at *
          generalize os[k].A = sA at *
          generalize os[k].c = scp at *
          have hsz := hb1.size
          subst hla
          go_wp2_with (at_builtin; refine wpList_append_sl _ (w0 := w) (cell := icell) rfl _ _ _ rfl w.heap.size w.heap.size 3 ii _ 8 Tryz.underlying29 Hii.out Hzi0.out Hzi1.out Hzi2.out rfl (by decide) _ _ _ rfl hv _ sA scp rx rfl hin (fun y j => rfl) (by unfold maxLen; omega) (by omega) hsz (Nat.le_refl _) hb1 ?_; intro v' w4 hown' hb4 _)
          go_roundw
          case rel => exact ⟨k + 1, hlt, by go_num, by rw [HS.out, List.length_append]; exact hown', hb4⟩
          case measure => simp [intOf]; omega
        · obtain rfl : k = os.length := by omega
          have q1 : decide ((os.length : Int) < (os.length : Int)) = false := decide_eq_false (by omega)
          rw [List.take_length] at hv
          go_wp2_with fail
          go_ret
          exact ⟨⟨_, rfl, hv⟩, hb1⟩
theorem cloneP_ok (base : Nat) (v : Value) (xs : List Int) (w : World) (h : w.ownsRow base 3 1 v xs.length (flat 1 icell xs)) (hl : xs.length ≤ 1000000) :
    Calls Tryz.prog 77 #[v] w fun e w' => (∃ v, e = .returned v ∧ w'.ownsRow w.heap.size 3 1 v xs.length (flat 1 icell xs)) ∧ Below w.heap.size w w' := by
  rcases h.2 with ⟨rfl, h0⟩ | ⟨g, cap, cur, rfl, _⟩
  · have hx : xs = [] := List.eq_nil_of_length_eq_zero h0
    subst hx
    refine (Any.slices_Clone_int_nil cloneI 0 0 w).mono ?_
    rintro e w' ⟨rfl, rfl⟩
    exact ⟨⟨_, rfl, own_nil _ _ _ _ _⟩, Below.refl _ _⟩
  · refine (Any.slices_Clone_int cloneI g 0 xs.length cap xs w (Nat.le_refl _) (by omega) (fun j hj => ?_)).mono ?_
    · have := (own_at h hj (j := 0) (by decide)).1
      rw [Nat.mul_one, Nat.add_zero] at this
      rw [Nat.zero_add, this, List.getD_eq_getElem?_getD, List.getElem?_eq_getElem hj]
      rfl
    · rintro e w' ⟨v, rfl, hv, -, hb⟩
      rw [List.take_length, ← flat_ints] at hv
      exact ⟨⟨v, rfl, hv⟩, hb⟩
end Go.Proofs.YtpkepgcmifdpfaaGreatDoor
end

section
namespace Go.Proofs.YtpkepgcmifdpfaaGreatDoor
open Go Go.RowKit Go.Maps
set_option maxRecDepth 100000
structure OfD (D : DataW Unit) (f : Int → Nat) : Prop where
  map : IsMap D
  hit : ∀ s, M.W64 s → D.atKey (.int .i64 s) (.lit (.int .i64 0)) = .lit (.int .i64 (f s : Nat))
theorem OfD.start : OfD (.map []) (fun _ => 0) := ⟨isMap_empty, fun _ _ => rfl⟩
theorem OfD.put {D : DataW Unit} {f g : Int → Nat} (h : OfD D f) {s : Int} {i : Nat} (hg : ∀ x, g x = if x = s then i else f x) : OfD (D.put (.int .i64 s) (.lit (.int .i64 (i : Nat)))) g := by
  refine ⟨h.map.put _ _, fun x hx => ?_⟩
  rw [hg x]
  by_cases e : x = s
  · subst e
    rw [if_pos rfl]
    exact atKey_put_same h.map (by simp [WideAt.IsKeyLit]) _ _
  · rw [if_neg e, atKey_put_other (fun e2 => e (by injection e2))]
    exact h.hit x hx
theorem OfD.congr {D : DataW Unit} {f g : Int → Nat} (h : OfD D f) (hg : ∀ x, g x = f x) : OfD D g := ⟨h.map, fun s hs => by rw [hg s]; exact h.hit s hs⟩
def SLc.bk (s : SLc) : Option Nat := (Value.slice s.A s.xs.length s.c).ownBlock
structure WL (W : World) (ob base bW : Nat) (ls : List SLc) : Prop where
  outer : W.ownsRow ob 29 1 (.slice (some ⟨bW, 0, none⟩) ls.length ls.length) ls.length (flat 1 slcell ls)
  inner : ∀ k (hk : k < ls.length), W.ownsRow base 3 1 (.slice ls[k].A ls[k].xs.length ls[k].c) ls[k].xs.length (flat 1 icell ls[k].xs)
  apart : ∀ i k (hi : i < ls.length) (hk : k < ls.length), i ≠ k → ls[i].bk = none ∨ ls[i].bk ≠ ls[k].bk
section
variable {W W' : World} {ob base bW : Nat} {ls : List SLc}
theorem WL.below (h : WL W ob base bW ls) (hb : Below W.heap.size W W') : WL W' ob base bW ls := ⟨own_below h.outer hb, fun k hk => own_below (h.inner k hk) hb, h.apart⟩
theorem WL.own {row : Option Nat} {B : Nat} (h : WL W ob base bW ls) (hg : W.grownBy W' row) (hr : ∀ r, row = some r → B ≤ r ∧ ∃ o : Obj, W.heap[r]? = some o ∧ o.isCells = false) : WL W' ob base bW ls :=
  ⟨row_own h.outer hg hr, fun k hk => row_own (h.inner k hk) hg hr, h.apart⟩
theorem WL.far {b : Nat} (h : WL W ob base bW ls) (hg : W.grownBy W' (some b)) (h1 : b < base) (h2 : bW ≠ b) : WL W' ob base bW ls :=
  ⟨h.outer.kept hg (.inr (fun e => h2 (Option.some.inj e))), fun k hk => (h.inner k hk).kept hg (.inr (fun e => by have := ((h.inner k hk).lt _ e).1; omega)), h.apart⟩
theorem WL.at (h : WL W ob base bW ls) {i : Nat} (hi : i < ls.length) : W.cell? ⟨bW, i, none⟩ = some (.slice ls[i].A ls[i].xs.length ls[i].c) ∧ W.frozen? ⟨bW, i, none⟩ = false := by
  have h1 := own_at h.outer hi (j := 0) (by decide)
  rw [Nat.mul_one, Nat.add_zero] at h1
  exact h1
theorem WL.push (h : WL W ob base bW ls) {i : Nat} (hi : i < ls.length) (hbW : bW < base) {s : SLc} (hin : W'.ownsRow base 3 1 (.slice s.A s.xs.length s.c) s.xs.length (flat 1 icell s.xs)) (hg : W.grownBy W' ls[i].bk) (hat : ∀ b, s.bk = some b → ls[i].bk = some b ∨ W.heap.size ≤ b) :
    WL (W'.setCell ⟨bW, i, none⟩ (.slice s.A s.xs.length s.c)) ob base bW (ls.set i s) := by
  have hrow : ∀ {v : Value} {n : Nat} {xs : List Value}, W'.ownsRow base 3 1 v n xs → (W'.setCell ⟨bW, i, none⟩ (.slice s.A s.xs.length s.c)).ownsRow base 3 1 v n xs := fun ho => ho.kept (grown_set W' bW i _) (by
    cases hv : Value.ownBlock _ with
    | none => exact .inl rfl
    | some b => exact .inr (fun e => by have e2 : b = bW := Option.some.inj e; have := (ho.lt b hv).1; omega))
  refine ⟨?_, fun k hk => ?_, fun a k ha hk hak => ?_⟩
  · have h1 := h.outer.kept hg (own_ne h.outer (h.inner i hi) (by decide))
    have h2 := own_set h1 hi (j := 0) (y := s) (u := .slice s.A s.xs.length s.c) (by decide) rfl (fun j' h3 h4 => absurd h3 (by omega))
    rw [Nat.mul_one, Nat.add_zero] at h2
    rw [List.length_set]
    exact h2
  · rw [List.length_set] at hk
    by_cases e : i = k
    · subst e
      rw [List.getElem_set_self]
      exact hrow hin
    · rw [List.getElem_set_ne e]
      exact hrow ((h.inner k hk).kept hg (h.apart k i hk hi (fun e2 => e e2.symm)))
  · rw [List.length_set] at ha hk
    have hlt : ∀ k (hk : k < ls.length) b, ls[k].bk = some b → b < W.heap.size := fun k hk b e => ((h.inner k hk).lt b e).2
    by_cases ea : i = a
    · subst ea
      rw [List.getElem_set_self, List.getElem_set_ne hak]
      cases hb : s.bk with
      | none => exact .inl rfl
      | some b =>
        right
        intro e
        rcases hat b hb with h1 | h1
        · rcases h.apart i k hi hk hak with h2 | h2
          · rw [h1] at h2; cases h2
          · exact h2 (by rw [h1, ← e])
        · have := hlt k hk b e.symm
          omega
    · by_cases ek : i = k
      · subst ek
        rw [List.getElem_set_self, List.getElem_set_ne ea]
        cases hb : ls[a].bk with
        | none => exact .inl rfl
        | some b =>
          right
          intro e
          rcases hat b e.symm with h1 | h1
          · rcases h.apart a i ha hi hak with h2 | h2
            · rw [hb] at h2; cases h2
            · exact h2 (by rw [h1, hb])
          · have := hlt a ha b hb
            omega
      · rw [List.getElem_set_ne ea, List.getElem_set_ne ek]
        exact h.apart a k ha hk hak
end
structure OrS (s p : Nat) (w1 W : World) (nn : Nat) (D : DataW Unit) (gv : Value) (wl : List SLc) : Prop where
  eqs : s = w1.heap.size
  sp : s < p
  bel : Below w1.heap.size w1 W
  big : p + 3 ≤ W.heap.size
  xo : Box W p #[gv, .slice (some ⟨s, 0, none⟩) wl.length wl.length] 90
  map : W.ownsMap Tryz.prog 3 (plainElem (H := Unit) Tryz.prog 3) (p + 1) nn D
  xf : Box W (p + 2) #[.map (some (p + 1))] 129
  wt : WL W s (p + 3) s wl
section
variable {s p : Nat} {w1 W W' : World} {nn : Nat} {D : DataW Unit} {gv : Value} {wl : List SLc}
theorem OrS.next (h : OrS s p w1 W nn D gv wl) (hb : Below W.heap.size W W') : OrS s p w1 W' nn D gv wl :=
  ⟨h.eqs, h.sp, after_ h.bel hb, Nat.le_trans h.big hb.size, h.xo.below hb, h.map.kept (below_grown hb) (by simp), h.xf.below hb, h.wt.below hb⟩
theorem OrS.own {row : Option Nat} {B : Nat} (h : OrS s p w1 W nn D gv wl) (hB : p + 3 ≤ B) (hg : W.grownBy W' row) (hr : ∀ r, row = some r → B ≤ r ∧ ∃ o : Obj, W.heap[r]? = some o ∧ o.isCells = false) : OrS s p w1 W' nn D gv wl :=
  ⟨h.eqs, h.sp, below_own h.bel (by have := h.eqs; have := h.sp; omega) h.bel.size hg hr, Nat.le_trans h.big hg.size, h.xo.own hg hr, h.map.kept hg (fun e => by have := (hr _ e.symm).1; omega), h.xf.own hg hr, h.wt.own hg hr⟩
theorem OrS.put {D' : DataW Unit} (h : OrS s p w1 W nn D gv wl) (hm : W'.ownsMap Tryz.prog 3 (plainElem (H := Unit) Tryz.prog 3) (p + 1) (nn + 1) D') (hg : W.grownBy W' (some (p + 1))) : OrS s p w1 W' (nn + 1) D' gv wl :=
  ⟨h.eqs, h.sp, h.bel.grown hg h.bel.size (fun k e => by cases e; have := h.eqs; have := h.sp; omega), Nat.le_trans h.big hg.size, h.xo.grown hg (fun e => by have := Option.some.inj e; omega), hm, h.xf.grown hg (fun e => by have := Option.some.inj e; omega), h.wt.far hg (by omega) (by have := h.sp; omega)⟩
theorem OrS.push (h : OrS s p w1 W nn D gv wl) {i : Nat} (hi : i < wl.length) {r : SLc} (hin : W'.ownsRow (p + 3) 3 1 (.slice r.A r.xs.length r.c) r.xs.length (flat 1 icell r.xs)) (hg : W.grownBy W' wl[i].bk) (hat : ∀ b, r.bk = some b → wl[i].bk = some b ∨ W.heap.size ≤ b) :
    OrS s p w1 (W'.setCell ⟨s, i, none⟩ (.slice r.A r.xs.length r.c)) nn D gv (wl.set i r) := by
  have hb := h.big
  have hsp := h.sp
  have he := h.eqs
  have hge : ∀ k, wl[i].bk = some k → p + 3 ≤ k := fun k e => ((h.wt.inner i hi).lt k e).1
  have hne : ∀ k, k < p + 3 → some k ≠ wl[i].bk := fun k h1 e => by have := hge k e.symm; omega
  refine ⟨h.eqs, h.sp, (h.bel.grown hg h.bel.size (fun k e => by have := hge k e; omega)).setCell (p := ⟨s, i, none⟩) (by dsimp only; omega) _, by rw [World.size_setCell]; exact Nat.le_trans hb hg.size, ?_, ?_, ?_, h.wt.push hi (by omega) hin hg hat⟩
  · rw [List.length_set]
    exact (h.xo.grown hg (hne _ (by omega))).set_other (by dsimp only; omega) _
  · exact (h.map.kept hg (hne _ (by omega))).kept (grown_set W' s i _) (fun e => by have := Option.some.inj e; omega)
  · exact (h.xf.grown hg (hne _ (by omega))).set_other (by dsimp only; omega) _
end
end Go.Proofs.YtpkepgcmifdpfaaGreatDoor
end

section
namespace Go.Proofs.YtpkepgcmifdpfaaGreatDoor
open Go Go.RowKit Go.Maps
set_option maxRecDepth 100000
theorem push_wp2 {α : Type} {P : Program} {size : Nat} {cell : α → Nat → Value} {w : World} {o : Oper} {a : Act} {K : Act → World → Prop} {Q : Exit → Act → World → Prop} (s x : Operand) (t : TypeId)
    (ho : o.op = .call { callee := .builtin .append, args := #[s, x], argTypes := #[t, t] })
    (base : Nat) (e : TypeId) (i : TypeInfo) (z : Value) (bytes : Nat) (ht : P.underlying t = some (.slice e)) (hi : P.info? e = some i) (hz : i.zero = some z)
    (hsize : i.size = size) (hby : i.bytes = bytes) (hzs : z.cells.size = size) (hsz : 0 < size)
    (v : Value) (n : Nat) (xs : List α) (y : α) (hs : a.eval s = v) (hown : w.ownsRow base e size v n (flat size cell xs))
    (cs : Array Value) (te : TypeId) (hcs : cs.toList = (List.range size).map (cell y)) (c : Nat) (hx : a.eval x = .slice (some ⟨w.heap.size, 0, none⟩) 1 c) (h1 : ∀ j, (cell y j).oneCell' = true)
    (h63 : n + 1 ≤ maxLen) (hbytes : (n + 1) * bytes ≤ 140737488355328) (hbase : base ≤ w.heap.size)
    (h : ∀ v' w', w'.ownsRow base e size v' (n + 1) (flat size cell (xs ++ [y])) → w.grownBy w' v.ownBlock → (∀ b, v'.ownBlock = some b → v.ownBlock = some b ∨ w.heap.size ≤ b) → K (a.put o.dst v') w') :
    Oper.wp P o a (w.alloc (.cells cs te)) K Q := by
  obtain ⟨v', w', hrun, h2, h3, _, h5⟩ := run_append_own_at (P := P) (w.alloc (.cells cs te)) base t o.type e i z size bytes ht hi hz hsize hby hzs hsz v n (flat size cell xs) (hown.alloc _) ⟨w.heap.size, 0, none⟩ 1 c cs.toList (by rw [hcs]; simp) (by
    intro j u hj
    have hb : (w.alloc (.cells cs te)).heap[w.heap.size]? = some (.cells cs te (0, 0)) := heap_alloc_new w _
    have e1 : (⟨w.heap.size, 0, none⟩ : Addr).add j = ⟨w.heap.size, j, none⟩ := by unfold Addr.add; split <;> simp_all
    rw [e1, cell_of_row _ _ _ _ _ _ hb]
    simpa using hj) (by
    intro u hu
    rw [hcs] at hu
    obtain ⟨j, _, rfl⟩ := List.mem_map.1 hu
    exact h1 j) h63 hbytes (by simp; omega)
  unfold Oper.wp execOp
  simp only [ho, resolve, invoke, builtin, Sem.run_bind, Sem.run_pure, Result.andThen_ok, List.map_toArray, List.map_cons, List.map_nil, hs, hx, hrun]
  have hg' := grown_alloc h3
  refine h v' w' (by rw [flat_append, flat_one, ← hcs]; exact h2) hg' fun b hb => ?_
  rcases h5 with h5 | h5
  · exact .inl (h5 ▸ hb)
  · rw [h5] at hb
    have := Option.some.inj hb
    simp at this
    omega
set_option maxHeartbeats 32000000 in
theorem order_reg22 {Q : Exit → Act → World → Prop} {cd : Code} {dl : List Deferred} {Z0 Z1 Z2 Z3 Z4 Z5 Z7 Z8 Z9 Za Zb Zc Zd Zg Zh Zi Zj Zk Zl Zm Zn Zo Zp Zq Zr Zs Zt Zu Zv Zw Zx Zy Zz Z10 Z11 Z12 Z13 Z14 Z15 Z16 Z17 Z18 Z19 Z1a Z1b Z1c Z1d Z1e Z1f Z1g Z1h Z1i Z1j Z1k Z1l Z1m Z1n Z1o Z1p Z1q Z1r Z1s Z1t Z1u Z1v Z1w Z1x Z1y Z1z Z20 Z21 Z22 Z23 Z24 Z25 Z26 Z27 Z28 Z29 Z2a Z2b Z2c Z2d Z2e Z2f Z2g Z2h Z2i Z2j Z2k Z2l Z2m Z2n Z2o Z2p Z2q Z2r Z2s Z2t Z2u Z2v Z2w Z2x Z2y Z2z : Value} {rl nl s p nn i j : Nat} {w1 X : World} {D : DataW Unit} {gv : Value} {wl : List SLc} (h : OrS s p w1 X nn D gv wl) (hi : i < wl.length) (hlen : wl[i].xs.length ≤ 1000000) (hcd : (Tryz.f48.body.bind (regionOf 22)) = some cd)
    (hQ : ∀ (y95 y96 y97 y98 y99 y100 y101 y102 y103 y104 y105 y106 : Value) (wo : World) (r : SLc), r.xs = wl[i].xs ++ [((j : Nat) : Int)] → OrS s p w1 wo nn D gv (wl.set i r) → (∀ (d : Nat) (o : Obj), Hold X d o → o.isCells = false → Hold wo d o) → (∃ w8 v, X.grownBy w8 wl[i].bk ∧ wo = w8.setCell ⟨s, i, none⟩ v) → Q .normal ⟨#[Z0,Z1,Z2,Z3,Z4,Z5,.pointer (some ⟨p, 0, none⟩),Z7,Z8,Z9,Za,Zb,Zc,Zd,.int .i64 (i : Nat),.int .i64 (j : Nat),Zg,Zh,Zi,Zj,Zk,Zl,Zm,Zn,Zo,Zp,Zq,Zr,Zs,Zt,Zu,Zv,Zw,Zx,Zy,Zz,Z10,Z11,Z12,Z13,Z14,Z15,Z16,Z17,Z18,Z19,Z1a,Z1b,Z1c,Z1d,Z1e,Z1f,Z1g,Z1h,Z1i,Z1j,Z1k,Z1l,Z1m,Z1n,Z1o,Z1p,Z1q,Z1r,Z1s,Z1t,Z1u,Z1v,Z1w,Z1x,Z1y,Z1z,Z20,Z21,Z22,Z23,Z24,Z25,Z26,Z27,Z28,Z29,Z2a,Z2b,Z2c,Z2d,Z2e,Z2f,Z2g,Z2h,Z2i,Z2j,Z2k,Z2l,Z2m,y95,y96,y97,y98,y99,y100,y101,y102,y103,y104,y105,y106,Z2z], dl⟩ wo) :
    cd.wpIn (FR rl) nl Tryz.prog Q ⟨#[Z0,Z1,Z2,Z3,Z4,Z5,.pointer (some ⟨p, 0, none⟩),Z7,Z8,Z9,Za,Zb,Zc,Zd,.int .i64 (i : Nat),.int .i64 (j : Nat),Zg,Zh,Zi,Zj,Zk,Zl,Zm,Zn,Zo,Zp,Zq,Zr,Zs,Zt,Zu,Zv,Zw,Zx,Zy,Zz,Z10,Z11,Z12,Z13,Z14,Z15,Z16,Z17,Z18,Z19,Z1a,Z1b,Z1c,Z1d,Z1e,Z1f,Z1g,Z1h,Z1i,Z1j,Z1k,Z1l,Z1m,Z1n,Z1o,Z1p,Z1q,Z1r,Z1s,Z1t,Z1u,Z1v,Z1w,Z1x,Z1y,Z1z,Z20,Z21,Z22,Z23,Z24,Z25,Z26,Z27,Z28,Z29,Z2a,Z2b,Z2c,Z2d,Z2e,Z2f,Z2g,Z2h,Z2i,Z2j,Z2k,Z2l,Z2m,Z2n,Z2o,Z2p,Z2q,Z2r,Z2s,Z2t,Z2u,Z2v,Z2w,Z2x,Z2y,Z2z], dl⟩ X := by
  rw [show (Tryz.f48.body.bind (regionOf 22)) = some (Code.region 22 _ true) from rfl] at hcd
  obtain rfl := Option.some.inj hcd
  clear hcd
  dsimp only at hQ ⊢
  obtain ⟨ii, hii, hzi0, hzi1, hzi2⟩ := info_parts intInfoP
  have Hii := Lib.hid hii; have Hzi0 := Lib.hid hzi0; have Hzi1 := Lib.hid hzi1; have Hzi2 := Lib.hid hzi2
  clear hii hzi0 hzi1 hzi2
  have D1 := h.xo.cell 1 rfl
  have D2 := (h.wt.at hi).1
  have hin := h.wt.inner i hi
  have hin0 := Lib.hid hin
  have L1 := h.xo.lt
  have L2 : s < X.heap.size := by have := h.big; have := h.sp; omega
  obtain ⟨xs, hxs⟩ : ∃ xs, wl[i].xs = xs := ⟨_, rfl⟩
  obtain ⟨rA, hrA⟩ : ∃ xs, wl[i].A = xs := ⟨_, rfl⟩
  obtain ⟨rc, hrc⟩ : ∃ xs, wl[i].c = xs := ⟨_, rfl⟩
  have HBK : Hid ((Value.slice rA xs.length rc).ownBlock = wl[i].bk) := Lib.hid (by rw [← hxs, ← hrA, ← hrc]; rfl)
  rw [hxs, hrA, hrc] at D2 hin
  rw [hxs] at hlen hQ
  obtain ⟨n, hn⟩ : ∃ n, wl.length = n := ⟨_, rfl⟩
  rw [hn] at D1
  have x0 : (0 : Int) ≤ (i : Int) := by omega
  have x1 : (i : Int) < (n : Int) := by omega
  obtain ⟨rn, hrn⟩ : ∃ n, xs.length = n := ⟨_, rfl⟩
  rw [hrn] at D2
  have HNN := Lib.hid hn
  have HC : Hid (slcell wl[i] 0 = .slice rA rn rc) := Lib.hid (by unfold slcell; rw [hxs, hrA, hrc, hrn])
  have HQ := Lib.hid hQ
  clear hQ hxs hrA hrc hn hin0
  refine wpIn_of_any (by kernel_rfl) (by kernel_rfl) ?_
  refine wpAny_of_L (S := (fun (ls : Array Bool) (w' : World) => ls.getD 12 true = false → w'.cell? ⟨p, 1, none⟩ = some (.slice (some ⟨s, 0, none⟩) n n) ∧ w'.cell? ⟨s, i, none⟩ = some (.slice rA rn rc))) _ _ _ _ ?_
  change wpAnyL Tryz.prog _ _ _ _ _ _ _ X.drew
  refine wpAnyL_take (i := 0) (q := 12) (v := .pointer (some ⟨p, 1, none⟩)) (fun w' => True) rfl (by kernel_rfl) (by kernel_rfl) (by kernel_rfl) (fun c a w h => h) rfl (by kernel_rfl) (by decide) (fun ls w => by simp) (fun ls w h1 h2 => trivial) rfl rfl (fun w h => by go_simp) (fun _ => ⟨D1, D2⟩) ?_
  try simp only [Act.put]
  refine wpAnyL_take (i := 1) (q := 12) (v := .slice (some ⟨s, 0, none⟩) n n) (fun w' => w'.cell? ⟨p, 1, none⟩ = some (.slice (some ⟨s, 0, none⟩) n n)) rfl (by kernel_rfl) (by kernel_rfl) (by kernel_rfl) (fun c a w h => h) rfl (by kernel_rfl) (by decide) (fun ls w => by simp) (fun ls w h1 h2 => (h2 h1).1) rfl rfl (fun w h => by go_simp) (fun _ => ⟨D1, D2⟩) ?_
  try simp only [Act.put]
  refine wpAnyL_take (i := 2) (q := 12) (v := .int .i64 (i : Nat)) (fun w' => True) rfl (by kernel_rfl) (by kernel_rfl) (by kernel_rfl) (fun c a w h => h) rfl (by kernel_rfl) (by decide) (fun ls w => by simp) (fun ls w h1 h2 => trivial) rfl rfl (fun w h => by go_simp) (fun _ => ⟨D1, D2⟩) ?_
  try simp only [Act.put]
  refine wpAnyL_take (i := 3) (q := 12) (v := .pointer (some ⟨p, 1, none⟩)) (fun w' => True) rfl (by kernel_rfl) (by kernel_rfl) (by kernel_rfl) (fun c a w h => h) rfl (by kernel_rfl) (by decide) (fun ls w => by simp) (fun ls w h1 h2 => trivial) rfl rfl (fun w h => by go_simp) (fun _ => ⟨D1, D2⟩) ?_
  try simp only [Act.put]
  refine wpAnyL_take (i := 4) (q := 12) (v := .slice (some ⟨s, 0, none⟩) n n) (fun w' => w'.cell? ⟨p, 1, none⟩ = some (.slice (some ⟨s, 0, none⟩) n n)) rfl (by kernel_rfl) (by kernel_rfl) (by kernel_rfl) (fun c a w h => h) rfl (by kernel_rfl) (by decide) (fun ls w => by simp) (fun ls w h1 h2 => (h2 h1).1) rfl rfl (fun w h => by go_simp) (fun _ => ⟨D1, D2⟩) ?_
  try simp only [Act.put]
  refine wpAnyL_take (i := 5) (q := 12) (v := .int .i64 (i : Nat)) (fun w' => True) rfl (by kernel_rfl) (by kernel_rfl) (by kernel_rfl) (fun c a w h => h) rfl (by kernel_rfl) (by decide) (fun ls w => by simp) (fun ls w h1 h2 => trivial) rfl rfl (fun w h => by go_simp) (fun _ => ⟨D1, D2⟩) ?_
  try simp only [Act.put]
  refine wpAnyL_take (i := 6) (q := 12) (v := .pointer (some ⟨s, i, none⟩)) (fun w' => True) rfl (by kernel_rfl) (by kernel_rfl) (by kernel_rfl) (fun c a w h => h) rfl (by kernel_rfl) (by decide) (fun ls w => by simp) (fun ls w h1 h2 => trivial) rfl rfl (fun w h => by go_simp) (fun _ => ⟨D1, D2⟩) ?_
  try simp only [Act.put]
  refine wpAnyL_take (i := 7) (q := 12) (v := .slice rA rn rc) (fun w' => w'.cell? ⟨s, i, none⟩ = some (.slice rA rn rc)) rfl (by kernel_rfl) (by kernel_rfl) (by kernel_rfl) (fun c a w h => h) rfl (by kernel_rfl) (by decide) (fun ls w => by simp) (fun ls w h1 h2 => (h2 h1).2) rfl rfl (fun w h => by go_simp) (fun _ => ⟨D1, D2⟩) ?_
  try simp only [Act.put]
  refine wpAnyL_take (i := 8) (q := 12) (v := .int .i64 (j : Nat)) (fun w' => True) rfl (by kernel_rfl) (by kernel_rfl) (by kernel_rfl) (fun c a w h => h) rfl (by kernel_rfl) (by decide) (fun ls w => by simp) (fun ls w h1 h2 => trivial) rfl rfl (fun w h => by go_simp) (fun _ => ⟨D1, D2⟩) ?_
  try simp only [Act.put]
  refine wpAnyL_one (i := 9) (by kernel_rfl) ?_
  refine wpOp_K (fun K hK => ?_)
  refine wpOp_one rfl rfl ?_
  go_simp
  refine hK _ _ ⟨fun _ => ⟨?_, ?_⟩, ?_⟩
  · exact (World.cell?_alloc_lt X.drew _ ⟨p, 1, none⟩ L1).trans D1
  · exact (World.cell?_alloc_lt X.drew _ ⟨s, i, none⟩ L2).trans D2
  clear hK K
  try simp only [Act.put]
  refine wpAnyL_one (i := 10) (by kernel_rfl) ?_
  refine wpOp_K (fun K hK => ?_)
  refine wpOp_one rfl rfl ?_
  have hind : X.drew.ownsRow (p + 3) 3 1 (.slice rA xs.length rc) xs.length (flat 1 icell xs) := hin
  rw [hrn] at hind
  refine push_wp2 (w := X.drew) (cell := icell) (y := ((j : Nat) : Int)) _ _ _ rfl (p + 3) 3 ii _ 8 Tryz.underlying29 Hii.out Hzi0.out Hzi1.out Hzi2.out rfl (by decide) (.slice rA rn rc) rn xs (by simp [Act.eval]) hind _ _ rfl 1 (by simp [Act.eval]) (fun j => rfl) (by unfold maxLen; omega) (by omega) h.big ?_
  intro v' w8 hown8 hg8 hat8
  obtain ⟨g8, cap8, rfl⟩ := ownsRow_succ hown8
  rw [← hrn, HBK.out] at hg8
  have hg9 := grown_drew hg8
  obtain ⟨r, hr1, hr2, hr3⟩ : ∃ r : SLc, r.A = some ⟨g8, 0, none⟩ ∧ r.xs = xs ++ [((j : Nat) : Int)] ∧ r.c = cap8 := ⟨⟨_, _, _⟩, rfl, rfl, rfl⟩
  have hrl : r.xs.length = rn + 1 := by rw [hr2, List.length_append, hrn]; rfl
  have p8 := h.push (W' := w8) hi (r := r) (by rw [hr1, hr3, hrl, hr2]; exact hown8) hg9 (fun b hb => by rw [← HBK.out, hrn]; exact hat8 b (by unfold SLc.bk at hb; rw [hr1, hr3, hrl] at hb; exact hb))
  rw [hr1, hr3, hrl] at p8
  have ho8 := h.wt.outer.kept hg9 (own_ne h.wt.outer (h.wt.inner i hi) (by decide))
  have hh : ∀ (d : Nat) (o : Obj), Hold X d o → o.isCells = false → Hold (w8.setCell ⟨s, i, none⟩ (.slice (some ⟨g8, 0, none⟩) (rn + 1) cap8)) d o := fun d o hd hc => by
    have h1 := hd.grown hg9 (Hold.ne_own hd hc (h.wt.inner i hi))
    exact h1.set_other (p := ⟨s, i, none⟩) (fun e => Hold.ne_own h1 hc ho8 (by rw [e]; rfl)) _
  have f8 : w8.frozen? ⟨s, i, none⟩ = false := (h.wt.outer.kept hg9 (own_ne h.wt.outer (h.wt.inner i hi) (by decide))).frozenAt _
  have c8 := (own_at (h.wt.outer.kept hg9 (own_ne h.wt.outer (h.wt.inner i hi) (by decide))) hi (j := 0) (by decide)).1
  rw [Nat.mul_one, Nat.add_zero] at c8
  refine hK _ _ ⟨(fun _ => ⟨(h.xo.grown hg9 (fun e => by have := ((h.wt.inner i hi).lt _ e.symm).1; omega)).cell 1 (by rw [← HNN.out]; rfl), c8.trans (congrArg some HC.out)⟩), ?_⟩
  clear hK K
  try simp only [Act.put]
  refine wpAnyL_one (i := 11) (by kernel_rfl) ?_
  refine wpOp_K (fun K hK => ?_)
  refine wpOp_one rfl rfl ?_
  go_simp
  refine hK _ _ ⟨(fun _ => ⟨(h.xo.grown hg9 (fun e => by have := ((h.wt.inner i hi).lt _ e.symm).1; omega)).cell 1 (by rw [← HNN.out]; rfl), c8.trans (congrArg some HC.out)⟩), ?_⟩
  clear hK K
  try simp only [Act.put]
  refine wpAnyL_one (i := 12) (by kernel_rfl) ?_
  refine wpOp_K (fun K hK => ?_)
  refine wpOp_one rfl rfl ?_
  go_simp
  refine hK _ _ ⟨(fun h => absurd h (by simp)), ?_⟩
  clear hK K
  try simp only [Act.put]
  refine wpAnyL_done (by kernel_rfl) ?_ _
  refine onlyK_of ?_
  exact HQ.out _ _ _ _ _ _ _ _ _ _ _ _ _ r hr2 p8 hh ⟨_, _, hg9, rfl⟩
end Go.Proofs.YtpkepgcmifdpfaaGreatDoor
end
