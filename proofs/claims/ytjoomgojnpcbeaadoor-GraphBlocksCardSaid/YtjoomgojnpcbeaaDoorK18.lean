/- A bundle of texts: La2. -/
import Derived.Test.YtjoomgojnpcbeaaDoorK12
import Derived.Test.YtjoomgojnpcbeaaDoorK10
import Derived.Test.YtjoomgojnpcbeaaDoorK06
import Derived.Deep.RegionHeld3
section
namespace Go.Proofs.YtjoomgojnpcbeaaDoor
open Go Go.RowKit Gh
set_option maxRecDepth 100000
namespace Ge
def bld (n : Nat) (l : List (Int × Int)) : List Ed := l.foldl (fun E e => (add n E e.1 e.2).1) []
theorem bld_snoc (n : Nat) (l : List (Int × Int)) (e : Int × Int) : bld n (l ++ [e]) = (add n (bld n l) e.1 e.2).1 := by unfold bld; rw [List.foldl_append]; rfl
theorem add_len (n : Nat) (E : List Ed) (a b : Int) : (add n E a b).1.length ≤ E.length + 1 := by
  unfold add
  split
  · exact Nat.le_succ _
  · split
    · exact Nat.le_succ _
    · simp
theorem bld_len (n : Nat) (l : List (Int × Int)) : ∀ k, k ≤ l.length → (bld n (l.take k)).length ≤ k
  | 0, _ => Nat.le_refl _
  | k + 1, hk => by
    rw [List.take_succ_eq_append_getElem (by omega), bld_snoc]
    have := bld_len n l k (by omega)
    have := add_len n (bld n (l.take k)) (l[k]'(by omega)).1 (l[k]'(by omega)).2
    omega
end Ge
def dcell (e : Int × Int) (j : Nat) : Value := .int .i64 (if j = 0 then e.1 else e.2)
theorem Sl.pair_at {w : World} {B : Nat} {A : Option Addr} {E : List (Int × Int)} {k : Nat} (h : Sl 2 dcell w B A E) (hk : k < E.length) : ∃ la, A = some la ∧ (la.add (k * 2)).block < B ∧ w.cell? (la.add (k * 2)) = some (.int .i64 E[k].1) ∧ w.cell? ⟨(la.add (k * 2)).block, (la.add (k * 2)).off + 1, none⟩ = some (.int .i64 E[k].2) := by
  obtain ⟨ad, e, hb, h0, hj⟩ := h.sp (by decide) hk
  exact ⟨ad, e, hb, h0, hj 1 (by decide) (by decide)⟩
theorem own_ne_box {W : World} {base : Nat} {e t : TypeId} {size b n : Nat} {v : Value} {xs : List Value} {cs : Array Value} (h : W.ownsRow base e size v n xs) (hb : Box W b cs t) (hne : e ≠ t) : v.ownBlock = none ∨ v.ownBlock ≠ some b := by
  rcases h.2 with ⟨rfl, _⟩ | ⟨g, cap, cur, rfl, _, hg, _⟩
  · exact .inl rfl
  · refine .inr fun e2 => hne ?_
    have e3 : g = b := Option.some.inj e2
    subst e3
    have := hg.symm.trans hb
    simp only [Option.some.injEq, Obj.cells.injEq] at this
    exact this.2.1
theorem own_two {W W' : World} {g bg base n : Nat} {e : TypeId} {size : Nat} {v : Value} {xs : List Value} (h : W.ownsRow base e size v n xs) (hT : Two W W' g bg) (h1 : v.ownBlock = none ∨ v.ownBlock ≠ some g) (h2 : v.ownBlock = none ∨ v.ownBlock ≠ some bg) : W'.ownsRow base e size v n xs := by
  obtain ⟨w1, hg1, hg2⟩ := hT
  exact (h.kept hg1 h1).kept hg2 h2
theorem below_two {B g bg : Nat} {w W W' : World} (h : Below B w W) (hT : Two W W' g bg) (hB : B ≤ W.heap.size) (hg : B ≤ g) (hb : B ≤ bg) : Below B w W' := by
  obtain ⟨w1, hg1, hg2⟩ := hT
  have := hg1.size
  exact (h.grown hg1 hB (fun k e => by have := Option.some.inj e; omega)).grown hg2 (by omega) (fun k e => by have := Option.some.inj e; omega)
theorem two_below {W W' : World} (g bg : Nat) (h : Below W.heap.size W W') : Two W W' g bg := ⟨W', grown_any (below_grown h) _, grown_any (World.grownBy.refl W' none) _⟩
structure GE (W : World) (base g bg n : Nat) (R : List Nat) (E : List Ge.Ed) (EA : Option Addr) (ec : Nat) : Prop where
  go : GO W base g bg n n R E.length
  er : Ge.ER n E R
  own : W.ownsRow base 51 2 (.slice EA E.length ec) E.length (flat 2 ecell E)
section
variable {W W' : World} {base g bg n : Nat} {R : List Nat} {E : List Ge.Ed} {EA : Option Addr} {ec : Nat}
theorem GE.next (h : GE W base g bg n R E EA ec) (hb : Below W.heap.size W W') : GE W' base g bg n R E EA ec := ⟨h.go.next hb, h.er, own_below h.own hb⟩
theorem GE.sl (h : GE W base g bg n R E EA ec) : Sl 2 ecell W W.heap.size EA E := Sl.of_own (by decide) h.own
end
theorem ghAddE_ok (base g bg n cp : Nat) (E : List Ge.Ed) (R : List Nat) (a b : Int) (w : World) (h : GO w base g bg n cp R E.length) (er : Ge.ER n E R) (hE : E.length ≤ 1000000) :
    Calls Tryd.prog 31 #[gp bg, .int .i64 a, .int .i64 b] w fun e w' => ∃ R', e = .returned (.int .i64 (Ge.add n E a b).2) ∧ GO w' base g bg n cp R' (Ge.add n E a b).1.length ∧ Ge.ER n (Ge.add n E a b).1 R' ∧ Two w w' g bg := by
  have hl := h.len
  cases hbad : Ge.badA n a b with
  | true =>
    have hb : badE R a b = true := by
      unfold Ge.badA at hbad
      unfold badE inR
      rw [hl]
      simp only [Bool.or_eq_true, decide_eq_true_eq] at hbad
      simp only [Bool.or_eq_true, Bool.not_eq_true', Bool.and_eq_false_iff, decide_eq_false_iff_not, decide_eq_true_eq]
      omega
    refine (ghAdd_arg bg _ cp R _ a b w h.gg hb).mono ?_
    rintro e w' ⟨rfl, rfl⟩
    unfold Ge.add
    rw [if_pos hbad]
    exact ⟨R, rfl, h, er, two_below _ _ (Below.refl _ _)⟩
  | false =>
    obtain ⟨x, y, rfl, rfl, hx, hy, hxy⟩ := Ge.badA_no hbad
    have hadd : Ge.add n E (x : Int) (y : Int) = if Ge.has E x y = true then (E, 11) else (E ++ [(x, y)], 0) := by
      unfold Ge.add
      rw [if_neg (by rw [hbad]; decide), Int.toNat_natCast, Int.toNat_natCast]
    rw [hadd]
    cases hh : Ge.has E (x : Int) (y : Int) with
    | true =>
      rw [if_pos rfl]
      refine (ghAdd_busy base g bg n cp x y R _ w h hx hy hxy er.le (by rw [er.bit]; exact hh)).mono ?_
      rintro e w' ⟨rfl, hb⟩
      exact ⟨R, rfl, h.next hb, er, two_below _ _ hb⟩
    | false =>
      rw [if_neg (by decide)]
      refine (ghAdd_ok base g bg n cp x y R _ w h hx hy hxy er.le (by rw [er.bit]; exact hh) ⟨by omega, by omega⟩).mono ?_
      rintro e w' ⟨rfl, hg, hT⟩
      exact ⟨addE R x y, rfl, by rw [List.length_append]; exact hg, er.push hx hy hxy, hT⟩
theorem rAddE_ok (base n : Nat) (EA : Option Addr) (ec : Nat) (E : List Ge.Ed) (a b : Int) (w : World) (h : w.ownsRow base 51 2 (.slice EA E.length ec) E.length (flat 2 ecell E)) (hE : E.length ≤ 1000000) (hb : base ≤ w.heap.size) :
    Calls Tryd.prog 30 #[.int .i64 n, .slice EA E.length ec, .int .i64 a, .int .i64 b] w fun e w' => ∃ EA' ec', e = .returned (.tuple #[.slice EA' (Ge.add n E a b).1.length ec', .int .i64 (Ge.add n E a b).2]) ∧ w'.ownsRow base 51 2 (.slice EA' (Ge.add n E a b).1.length ec') (Ge.add n E a b).1.length (flat 2 ecell (Ge.add n E a b).1) ∧ Below w.heap.size w w' := by
  have hS : Sl 2 ecell w w.heap.size EA E := Sl.of_own (by decide) h
  cases hbad : Ge.badA n a b with
  | true =>
    refine (rAdd_off n EA ec E a b w hbad).mono ?_
    rintro e w' ⟨rfl, rfl⟩
    unfold Ge.add
    rw [if_pos hbad]
    exact ⟨EA, ec, rfl, h, Below.refl _ _⟩
  | false =>
    obtain ⟨x, y, hx, hy, -, -, -⟩ := Ge.badA_no hbad
    cases hh : Ge.has E a b with
    | true =>
      refine (rAdd_busy n EA ec E a b w hS hE hbad hh).mono ?_
      rintro e w' ⟨rfl, rfl⟩
      unfold Ge.add
      rw [if_neg (by rw [hbad]; decide), if_pos hh]
      exact ⟨EA, ec, rfl, h, Below.refl _ _⟩
    | false =>
      refine (rAdd_ok n EA ec E x y a b hx hy w hS hE hbad hh).mono ?_
      rintro e w' ⟨v', rfl, hown, hb2⟩
      unfold Ge.add
      rw [if_neg (by rw [hbad]; decide), if_neg (by rw [hh]; decide), hx, hy, Int.toNat_natCast, Int.toNat_natCast]
      obtain ⟨A', c', rfl, -⟩ := own_slice (by decide) hown
      exact ⟨A', c', rfl, own_base hown hb, hb2⟩
set_option maxHeartbeats 64000000 in
theorem lBuild_ok (n : Nat) (LA : Option Addr) (lc : Nat) (l : List (Int × Int)) (w : World) (hL : Sl 2 dcell w w.heap.size LA l) (hn : n ≤ 512) (hl : l.length ≤ 1000) :
    Calls Tryd.prog 12 #[.int .i64 n, .slice LA l.length lc] w fun e w' => ∃ g bg R EA ec, e = .returned (.tuple #[gp bg, .slice EA (Ge.bld n l).length ec]) ∧ GE w' w.heap.size g bg n R (Ge.bld n l) EA ec ∧ Below w.heap.size w w' := by
  go_enter Tryd.func12, Tryd.ntmps12
  go_wp2_with fail
  refine (ghNew_ok n w hn).mono ?_
  rintro e w1 ⟨bg, g, rfl, hg1, hg2, hbox, hown, hb1⟩
  have er0 : Ge.ER n (Ge.bld n (l.take 0)) (List.replicate n 0) := Ge.ER.nil hn
  have ge0 : GE w1 w.heap.size g bg n (List.replicate n 0) (Ge.bld n (l.take 0)) none 0 := ⟨⟨hbox, hown, by simp, hg2⟩, er0, own_nil _ _ _ 2 ecell⟩
  have hund : undef = Value.tuple #[] := rfl
  clear hbox hown er0
  go_wp2_with fail
  clear hund
  refine wp_loop_mrg [8, 9, 10, 11, 23, 24, 25, 26, 27, 28, 29, 30, 31, 32, 33, 34, 35, 36, 37, 38, 39, 40, 41, 42, 43, 44, 45, 46, 47, 48, 49, 50, 51, 52, 53, 54, 55, 56, 57, 58, 59] (fun mm f ds W0 => ds = [] ∧ ∃ (k : Nat) (R : List Nat) (EA : Option Addr) (ec : Nat), f 9 = .int .i64 k ∧ f 8 = .slice EA (Ge.bld n (l.take k)).length ec ∧ l.length - k = mm ∧ k ≤ l.length ∧ GE W0 w.heap.size g bg n R (Ge.bld n (l.take k)) EA ec ∧ Below w.heap.size w W0) l.length ⟨rfl, 0, _, none, 0, rfl, rfl, rfl, Nat.zero_le _, ge0, hb1⟩ ?_
  clear ge0 hb1
  intro c1' T1' hc2 hT2
  rintro mm f ds W0 ⟨rfl, k, R, EA, ec, hf9, hf8, rfl, hk, ge, hB0⟩
  replace hc2 := hc2.out
  subst hc2
  replace hT2 := hT2.out
  subst hT2
  generalize hF : mrgF _ 0 _ _ = F
  simp only [mrg_hit, mrg_miss, mrg_end, Nat.reduceBEq, Nat.reduceAdd] at hF
  rw [hf9, hf8] at hF
  subst hF
  clear hf9 hf8
  have hEk := Ge.bld_len n l k hk
  by_cases hkl : k < l.length
  · have x0 : (0 : Int) ≤ (k : Int) := by omega
    have x1 : (k : Int) < (l.length : Int) := by omega
    have q0 : decide ((k : Int) < (l.length : Int)) = true := decide_eq_true x1
    obtain ⟨la, hla, hlb, a0, a1⟩ := ((hL.below hB0).more hB0.size).pair_at hkl
    have HN : Hid (Ge.bld n (l.take (k + 1)) = (Ge.add n (Ge.bld n (l.take k)) l[k].1 l[k].2).1) := Lib.hid (by rw [List.take_succ_eq_append_getElem hkl, Ge.bld_snoc])
    obtain ⟨⟨a, b⟩, hab⟩ : ∃ p, l[k] = p := ⟨_, rfl⟩
    rw [hab] at a0 a1 HN
    have HAB := Lib.hid hab
    dsimp only at a0 a1 HN
    clear hab
    generalize Ge.bld n (l.take k) = E at *
    have hbs := hB0.size
    subst hla
    go_wp2_with fail
    have ge6 := ge.next (Below.refl _ _).drew
    have KA := Lib.hid (rAddE_ok w.heap.size n EA ec E a b _ ge6.own (by omega) hbs)
    clear ge
    refine wp_region_noPanic ?_
    go_region_law (go_simp; go_at_call 30; refine KA.out.mono ?_; rintro e w7 ⟨EA', ec', rfl, own7, hb7⟩)
    all_goals refine NoPanic.normal ?_
    all_goals
      have go7 := ge6.go.next hb7
      have er7 := ge6.er
      have hB7 := after_ hB0.drew hb7
      have hbs7 := hB7.size
      obtain ⟨la2, hla2, hlb, a0, a1⟩ := ((hL.below hB7).more hB7.size).pair_at hkl
      obtain rfl := Option.some.inj hla2
      rw [HAB.out] at a0 a1
      dsimp only at a0 a1
      have KG := Lib.hid (ghAddE_ok w.heap.size g bg n n E R a b _ (go7.next (Below.refl _ _).drew) er7 (by omega))
      clear KA ge6 hB0 hb7 hbs
      generalize Ge.add n E a b = ad at *
      obtain ⟨E', er⟩ := ad
      dsimp only at own7 HN KG ⊢
      go_wp2_with fail
      refine wp_region_noPanic ?_
      go_region_law (go_simp; go_at_call 31; refine KG.out.mono ?_; rintro e w8 ⟨R', rfl, go8, er8, hT8⟩)
      all_goals refine NoPanic.normal ?_
      all_goals
        have qe : (er != er) = false := by simp
        have o1 := own_ne own7 go7.own (by decide)
        have o2 := own_ne_box own7 go7.box (by decide)
        have own8 := own_two (own_below own7 (Below.refl _ _).drew) hT8 o1 o2
        have hB8 := below_two (hB7.drew) hT8 hbs7 hg1 (by omega)
        rw [← HN.out] at go8 er8 own8
        clear a0 a1 hlb KG o1 o2
        go_wp2_with fail
        exact ⟨_, rfl, rfl, l.length - (k + 1), by omega, by trivial, k + 1, R', EA', ec', rfl, by rw [HN.out]; rfl, rfl, hkl, ⟨go8, er8, own8⟩, hB8⟩
  · obtain rfl : k = l.length := by omega
    have q0 : decide ((l.length : Int) < (l.length : Int)) = false := decide_eq_false (by omega)
    rw [List.take_length]
    rw [List.take_length] at ge
    go_wp2_with fail
    go_ret2
    exact ⟨g, bg, R, EA, ec, rfl, ge, hB0⟩
end Go.Proofs.YtjoomgojnpcbeaaDoor
end
